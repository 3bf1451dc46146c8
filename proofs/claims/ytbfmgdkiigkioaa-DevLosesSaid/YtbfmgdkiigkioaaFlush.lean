/- The walk of what Flush lets do, and of Flush. -/
import Derived.Test.YtbfmgdkiigkioaaRead
import Derived.BigRegion
namespace Go.Proofs.Ytbfmgdkiigkioaa
open Go.RowKit Go.LawEnd

def flushL (f : List Int) (l : List Wr) : List Int := l.foldl (fun f p => f.set p.1.toNat p.2) f
theorem flushL_length (f : List Int) (l : List Wr) : (flushL f l).length = f.length := by
  unfold flushL
  induction l generalizing f with
  | nil => rfl
  | cons a l ih => rw [List.foldl_cons, ih, List.length_set]
theorem flushL_take (f : List Int) (l : List Wr) (k : Nat) (hk : k < l.length) : flushL f (l.take (k + 1)) = (flushL f (l.take k)).set l[k].1.toNat l[k].2 := by
  unfold flushL
  rw [List.take_add_one, List.getElem?_eq_getElem hk, List.foldl_append]
  rfl
def flushD (D : Dv) : Dv := ⟨flushL D.firm D.opn, [], D.plan, D.np⟩
/-- the open writes are of sectors that are there -/
def OkD (D : Dv) : Prop := ∀ p ∈ D.opn, 0 ≤ p.1 ∧ p.1 < (D.firm.length : Int)
section
variable {T : Nat → Prop} {d b3 : Nat} {D : Dv} {w w0 : World} {L : List Atom}
/-- a firm sector is written -/
theorem set_firm {g c n : Nat} {l : List Int} (hl : l.length = n) (h : Hv w0 T (blA (.slice (some ⟨g, 0, none⟩) n c) l :: L) w) (k : Nat) (hk : k < l.length) (z : Int) :
    Hv w0 T (blA (.slice (some ⟨g, 0, none⟩) n c) (l.set k z) :: L) (w.setCells g (k * 64) (markC z)) := by
  have h1 := Hv.rowSets (g := g) (n := n) (cap := c) (e := 34) (size := 64) (markC z) (xs := bls l) (L := L) (S := T) (w0 := w0) (w := w) (by rw [← hl]; rw [← hl] at h; exact h) (k * 64)
  have h2 : setList (bls l) (k * 64) (markC z) = bls (l.set k z) := setList_flat markC 64 markC_length l k hk z
  rw [h2] at h1
  unfold blA
  rw [List.length_set, hl]
  exact h1
set_option maxRecDepth 100000 in
set_option maxHeartbeats 6400000 in
theorem flush_do (HLE : Hid (D.opn.length ≤ 100000)) (HOK : Hid (OkD D)) (h : Hid (Sep (devA d D :: [blkA b3 26 #[.pointer (some ⟨d, 0, none⟩)]]) w T)) :
    Calls Try.prog 32 #[.pointer (some ⟨b3, 0, none⟩)] w fun e w' => (∃ v, e = .returned v) ∧ Hv w T (devA d (flushD D) :: [blkA b3 26 #[.pointer (some ⟨d, 0, none⟩)]]) w' := by
  obtain ⟨AF, cF, AO, cO, AP, cP, k0, k1, k2, hv, hpn⟩ := dev_cells (Hv.start h.out)
  have k3 : w.cell? ⟨b3, 0, none⟩ = some (.pointer (some ⟨d, 0, none⟩)) := by simpa using (hv.blk (i := 4) rfl).cell 0
  have H0 : Hid (Hv w T [blA (.slice AF D.firm.length cF) (flushL D.firm (D.opn.take 0)), blkA d 62 #[.slice AF D.firm.length cF, .slice AO D.opn.length cO, .slice AP D.plan.length cP], wrA (.slice AO D.opn.length cO) D.opn, plA (.slice AP D.plan.length cP) D.plan, blkA b3 26 #[.pointer (some ⟨d, 0, none⟩)]] w) := hv.pick [1, 0, 2, 3, 4]
  have HPN := Lib.hid hpn
  clear hpn
  obtain ⟨m, hm⟩ : ∃ m, m = D.opn.length := ⟨_, rfl⟩
  obtain ⟨nF, hnF⟩ : ∃ m, m = D.firm.length := ⟨_, rfl⟩
  have HM := Lib.hid hm
  have HNF := Lib.hid hnF
  have hmb := HLE.out
  rw [← hm] at k1 hmb H0
  rw [← hnF] at k0 H0
  clear hm hnF hv h k0 k2
  have hzw := zeroWr
  have hlaid := laid_wr
  have hwl := wrC_length
  have hml := markC_length
  go_enter Try.func32, Try.ntmps32
  go_wp2_with fail
  clear k1 k3
  go_loopw [8] (fun i wr => ∃ k : Nat, k ≤ m ∧ i = .int .i64 k ∧ Hv w T [blA (.slice AF nF cF) (flushL D.firm (D.opn.take k)), blkA d 62 #[.slice AF nF cF, .slice AO m cO, .slice AP D.plan.length cP], wrA (.slice AO m cO) D.opn, plA (.slice AP D.plan.length cP) D.plan, blkA b3 26 #[.pointer (some ⟨d, 0, none⟩)]] wr) (fun i _ => m - (intOf i).toNat)
  case atStart => exact ⟨0, by omega, rfl, H0.out⟩
  case round =>
    clear H0
    obtain ⟨k, hk, rfl, hi⟩ := hrel
    have HI := Lib.hid hi
    clear hi
    by_cases hkl : k < m
    · have hkl' : k < D.opn.length := by rw [← HM.out]; exact hkl
      have hrow := HI.out.row (i := 2) rfl
      rw [HM.out] at hrow
      obtain ⟨b, rfl, hb, hr, _⟩ := row_range hrow k hkl'
      have hok := HOK.out D.opn[k] (List.getElem_mem hkl')
      have hstep := flushL_take D.firm D.opn k hkl'
      obtain ⟨y, hy⟩ : ∃ y, y = D.opn[k] := ⟨_, rfl⟩
      rw [← hy] at hr hok hstep
      obtain ⟨fk, hfk⟩ : ∃ f, f = flushL D.firm (D.opn.take k) := ⟨_, rfl⟩
      have hfl : fk.length = nF := by rw [hfk, flushL_length, HNF.out]
      rw [← hfk] at HI hstep
      have HST := Lib.hid hstep
      clear hstep hy hfk hkl' hrow
      obtain ⟨y0, z⟩ := y
      have hok0 : 0 ≤ y0 := hok.1
      have hok1 : y0 < (nF : Int) := by rw [HNF.out]; exact hok.2
      have HYL : Hid (y0.toNat < fk.length) := by show _ < _; omega
      have HFL := Lib.hid hfl
      clear hok hfl
      go_wp2_with (refine step_load_wr hr rfl _ rfl rfl ?_)
      obtain ⟨Pb, hPb⟩ : ∃ y, y = wr.heap.size := ⟨_, rfl⟩
      obtain ⟨W1, hW1⟩ : ∃ y, y = wr.alloc (.cells (wrC (y0, z)).toArray 66) := ⟨_, rfl⟩
      have h1 := HI.out.alloc 66 (wrC (y0, z)).toArray
      rw [← hW1, ← hPb] at h1
      rw [← hW1, ← hPb]
      clear hW1 hPb HI hr hb
      have h2 : Hv w T [blA (.slice AF nF cF) fk, blkA Pb 66 (wrC (y0, z)).toArray, blkA d 62 #[.slice AF nF cF, .slice (some ⟨b, 0, none⟩) m cO, .slice AP D.plan.length cP], blkA b3 26 #[.pointer (some ⟨d, 0, none⟩)], wrA (.slice (some ⟨b, 0, none⟩) m cO) D.opn, plA (.slice AP D.plan.length cP) D.plan] W1 := h1.pick [1, 0, 2, 5, 3, 4]
      obtain ⟨g, rfl, _, _, hth⟩ := firm_range h2.drew (i := 0) rfl y0.toNat HYL.out
      have hst : (storeCells ⟨g, y0.toNat * 64, none⟩ (markC z)).run Try.prog W1.drew = .ok () (W1.drew.setCells g (y0.toNat * 64) (markC z)) := cells_block hth
      have h3 := set_firm HFL.out h2.drew y0.toNat HYL.out z
      obtain ⟨W3, hW3⟩ : ∃ y, y = W1.drew.setCells g (y0.toNat * 64) (markC z) := ⟨_, rfl⟩
      rw [← hW3] at h3 hst
      have HKP : Hid (∀ (l : List Int) (W : World), Hv w T [blA (.slice (some ⟨g, 0, none⟩) nF cF) l, blkA Pb 66 (wrC (y0, z)).toArray, blkA d 62 #[.slice (some ⟨g, 0, none⟩) nF cF, .slice (some ⟨b, 0, none⟩) m cO, .slice AP D.plan.length cP], blkA b3 26 #[.pointer (some ⟨d, 0, none⟩)], wrA (.slice (some ⟨b, 0, none⟩) m cO) D.opn, plA (.slice AP D.plan.length cP) D.plan] W →
          W.cell? ⟨b3, 0, none⟩ = some (.pointer (some ⟨d, 0, none⟩)) ∧ W.cell? ⟨d, 0, none⟩ = some (.slice (some ⟨g, 0, none⟩) nF cF) ∧ W.cell? ⟨Pb, 0, none⟩ = some (.int .i64 y0) ∧ W.rangeAt Pb 1 (markC z)) := fun l W hv =>
        have hs := range_split (blk_range (hv.blk (i := 1) rfl))
        ⟨by simpa using (hv.blk (i := 3) rfl).cell 0, by simpa using (hv.blk (i := 2) rfl).cell 0, hs.1, by simpa using hs.2⟩
      have H3 := Lib.hid h3
      have e0 := HKP.out _ _ h2
      obtain ⟨e1, e2, e3, e4⟩ := e0
      have d2 : decide (y0 < (nF : Int)) = true := decide_eq_true hok1
      have d3 : decide (0 ≤ y0) = true := decide_eq_true hok0
      clear h1 h2 h3 hW3 hth
      refine wp_region_noPanic ?_
      refine wp_region_held_drew (S := (fun W => W.cell? ⟨b3, 0, none⟩ = some (.pointer (some ⟨d, 0, none⟩)) ∧ W.cell? ⟨d, 0, none⟩ = some (.slice (some ⟨g, 0, none⟩) nF cF) ∧ W.cell? ⟨Pb, 0, none⟩ = some (.int .i64 y0) ∧ W.rangeAt Pb 1 (markC z))) (by kernel_rfl) ⟨e1, e2, e3, e4⟩ (fun hHeld => ?_)
      refine wpAnyH_take (i := 0) (v := ?v0) rfl (by kernel_rfl) (by kernel_rfl) (by kernel_rfl) (fun _ _ _ h => h) (Or.inl ⟨by rfl, ?hy0⟩) (by assumption) ?rest0
      case hy0 =>
        intro w hSw
        (try dsimp only at hSw)
        go_simp
        try with_reducible rfl
      try simp only [Act.put, List.getElem_toArray, List.getElem_cons_zero, List.setIfInBounds_toArray, List.set_cons_zero, List.set_cons_succ]
      refine wpAnyH_take (i := 1) (v := ?v1) rfl (by kernel_rfl) (by kernel_rfl) (by kernel_rfl) (fun _ _ _ h => h) (Or.inl ⟨by rfl, ?hy1⟩) (by assumption) ?rest1
      case hy1 =>
        intro w hSw
        (try dsimp only at hSw)
        go_simp
        try with_reducible rfl
      try simp only [Act.put, List.getElem_toArray, List.getElem_cons_zero, List.getElem_cons_succ, List.setIfInBounds_toArray, List.set_cons_zero, List.set_cons_succ]
      refine wpAnyH_take (i := 2) (v := ?v2) rfl (by kernel_rfl) (by kernel_rfl) (by kernel_rfl) (fun _ _ _ h => h) (Or.inl ⟨by rfl, ?hy2⟩) (by assumption) ?rest2
      case hy2 =>
        intro w hSw
        (try dsimp only at hSw)
        go_simp
        try with_reducible rfl
      try simp only [Act.put, List.getElem_toArray, List.getElem_cons_zero, List.getElem_cons_succ, List.setIfInBounds_toArray, List.set_cons_zero, List.set_cons_succ]
      refine wpAnyH_take (i := 3) (v := ?v3) rfl (by kernel_rfl) (by kernel_rfl) (by kernel_rfl) (fun _ _ _ h => h) (Or.inl ⟨by rfl, ?hy3⟩) (by assumption) ?rest3
      case hy3 =>
        intro w hSw
        (try dsimp only at hSw)
        go_simp
        try with_reducible rfl
      try simp only [Act.put, List.getElem_toArray, List.getElem_cons_zero, List.getElem_cons_succ, List.setIfInBounds_toArray, List.set_cons_zero, List.set_cons_succ]
      refine wpAnyH_take (i := 4) (v := ?v4) rfl (by kernel_rfl) (by kernel_rfl) (by kernel_rfl) (fun _ _ _ h => h) (Or.inl ⟨by rfl, ?hy4⟩) (by assumption) ?rest4
      case hy4 =>
        intro w hSw
        (try dsimp only at hSw)
        go_simp
        try with_reducible rfl
      try simp only [Act.put, List.getElem_toArray, List.getElem_cons_zero, List.getElem_cons_succ, List.setIfInBounds_toArray, List.set_cons_zero, List.set_cons_succ]
      refine wpAnyH_take (i := 5) (v := ?v5) rfl (by kernel_rfl) (by kernel_rfl) (by kernel_rfl) (fun _ _ _ h => h) (Or.inl ⟨by rfl, ?hy5⟩) (by assumption) ?rest5
      case hy5 =>
        intro w hSw
        (try dsimp only at hSw)
        go_simp
        try with_reducible rfl
      try simp only [Act.put, List.getElem_toArray, List.getElem_cons_zero, List.getElem_cons_succ, List.setIfInBounds_toArray, List.set_cons_zero, List.set_cons_succ]
      refine wpAnyH_take (i := 6) (v := ?v6) rfl (by kernel_rfl) (by kernel_rfl) (by kernel_rfl) (fun _ _ _ h => h) (Or.inl ⟨by rfl, ?hy6⟩) (by assumption) ?rest6
      case hy6 =>
        intro w hSw
        (try dsimp only at hSw)
        go_simp
        try with_reducible rfl
      try simp only [Act.put, List.getElem_toArray, List.getElem_cons_zero, List.getElem_cons_succ, List.setIfInBounds_toArray, List.set_cons_zero, List.set_cons_succ]
      refine wpAnyH_take (i := 7) (v := .agg _) rfl (by kernel_rfl) (by kernel_rfl) (by kernel_rfl) (fun _ _ _ h => h) (yieldsIf_load_mid (by rfl) 34 (.tmp 18) rfl _ _ rfl (markC z) _ (fun w hSw => hSw.2.2.2) Try.underlying34 rfl (by rw [size34, markC_length])) (by assumption) ?_
      try simp only [Act.put, List.getElem_toArray, List.getElem_cons_zero, List.getElem_cons_succ, List.setIfInBounds_toArray, List.set_cons_zero, List.set_cons_succ]
      refine wpAnyH_take (i := 8) (v := ?v8) rfl (by kernel_rfl) (by kernel_rfl) (by kernel_rfl) (fun _ _ _ h => h) (Or.inl ⟨by rfl, ?hy8⟩) (by assumption) ?rest8
      case hy8 =>
        intro w hSw
        (try dsimp only at hSw)
        go_simp
        try with_reducible rfl
      try simp only [Act.put, List.getElem_toArray, List.getElem_cons_zero, List.getElem_cons_succ, List.setIfInBounds_toArray, List.set_cons_zero, List.set_cons_succ]
      refine wpAnyH_ready (rs := [9]) (by kernel_rfl) (by simp) ?_
      refine AllReadyH.cons rfl (fun K hK => ?_) AllReadyH.nil
      go_simp
      refine hK.out _ _ (HKP.out _ _ H3.out) (fun hHeld3 => ?_)
      clear hK K
      refine wpAnyH_done (by kernel_rfl) ?_ _
      refine NoPanic.normal ?_
      clear hHeld hHeld3 e1 e2 e3 e4 hst HKP
      go_wp2
      go_roundw
      case rel => exact ⟨k + 1, by omega, rfl, by rw [HST.out]; exact H3.out.pick [0, 2, 4, 5, 3]⟩
      case measure => simp [intOf]; omega
    · obtain rfl : k = m := by omega
      have c3 : wr.cell? ⟨b3, 0, none⟩ = some (.pointer (some ⟨d, 0, none⟩)) := by simpa using (HI.out.blk (i := 4) rfl).cell 0
      have c4 := (HI.out.blk (i := 1) rfl).frozen 1
      have c5 := (HI.out.blk (i := 1) rfl).cell 1
      have h3 := ((HI.out.pick [1, 0, 3, 4]).set 1 (.slice none 0 0)).nilRow 66 65
      have H3 : Hid (Hv w T (devA d (flushD D) :: [blkA b3 26 #[.pointer (some ⟨d, 0, none⟩)]]) (wr.setCell ⟨d, 1, none⟩ (.slice none 0 0))) := by
        refine dev_close (D := flushD D) (vF := .slice AF nF cF) (vO := .slice none 0 0) (vP := .slice AP D.plan.length cP) ?_ ⟨fun _ => rfl, HPN.out.2⟩
        have e : flushL D.firm (D.opn.take k) = (flushD D).firm := by rw [HM.out, List.take_length]; rfl
        rw [e] at h3
        exact h3.pick [1, 2, 0, 3, 4]
      clear h3 HI
      go_wp2
      refine bodyPost_end (results_none rfl _ _ _) rfl ?_
      exact ⟨⟨_, rfl⟩, H3.out⟩
def flushF (D : Dv) : Int × Dv := if fateD D = 1 then (21, restD D) else if fateD D = 0 then (0, flushD (restD D)) else (0, restD D)
set_option maxRecDepth 100000 in
set_option maxHeartbeats 3200000 in
theorem flush_any (HLE : Hid (D.opn.length ≤ 100000)) (HOK : Hid (OkD D)) (h : Hid (Sep [devA d D] w T)) :
    Calls Try.prog 15 #[.pointer (some ⟨d, 0, none⟩)] w fun e w' => e = .returned (.int .i64 (flushF D).1) ∧ Hv w T [devA d (flushF D).2] w' := by
  go_enter Try.func15, Try.ntmps15
  go_wp2_with fail
  obtain ⟨b3, hb3⟩ : ∃ y, y = w.heap.size := ⟨_, rfl⟩
  obtain ⟨V, hA⟩ : ∃ y, y = w.alloc (.cells #[.pointer (some ⟨d, 0, none⟩)] 26) := ⟨_, rfl⟩
  have HV : Hid (Hv w T (devA d D :: [blkA b3 26 #[.pointer (some ⟨d, 0, none⟩)]]) V) := by
    have h1 := (Hv.start h.out).alloc 26 #[.pointer (some ⟨d, 0, none⟩)]
    rw [← hA, ← hb3] at h1
    exact h1.pick [1, 0]
  rw [← hA]
  rw [← hb3]
  clear hA hb3
  obtain ⟨T1, hT1, hJ⟩ := HV.out.all
  have HT1 := Lib.hid hT1
  have HJ := Lib.hid hJ
  have k3 : V.cell? ⟨b3, 0, none⟩ = some (.pointer (some ⟨d, 0, none⟩)) := by simpa using (HV.out.blk (i := 1) rfl).cell 0
  clear hT1 hJ h
  go_wp2_with fail
  by_cases h1 : fateD D = 1
  · have HF : Hid (flushF D = (21, restD D)) := by show _ = _; unfold flushF; rw [if_pos h1]
    refine (call_fail (Lib.hid h1) HT1).mono ?_
    rintro e w2 ⟨rfl, hw2⟩
    have HR := Lib.hid (HJ.out _ _ hw2)
    clear hw2 h1
    go_wp2
    go_ret
    exact ⟨by (first | (rw [HF.out]; done) | (rw [HF.out]; rfl)), by rw [HF.out]; exact HR.out.drop [devA _ _] _⟩
  · by_cases h0 : fateD D = 0
    · have HF : Hid (flushF D = (0, flushD (restD D))) := by show _ = _; unfold flushF; rw [if_neg h1, if_pos h0]
      refine (call_flush (R' := [blkA b3 26 #[.pointer (some ⟨d, 0, none⟩)]]) (D2 := flushD (restD D)) (Lib.hid h0) HT1 (Lib.hid (fun W hW => ?_))).mono ?_
      · obtain ⟨T3, hT3, hJ3⟩ := hW.all
        exact (flush_do (D := restD D) HLE HOK (Lib.hid hT3)).mono fun e w' hw => ⟨hw.1, hJ3 _ _ hw.2⟩
      · rintro e w2 ⟨rfl, hw2⟩
        have HR := Lib.hid (HJ.out _ _ hw2)
        clear hw2 h1 h0
        go_wp2
        go_ret
        exact ⟨by (first | (rw [HF.out]; done) | (rw [HF.out]; rfl)), by rw [HF.out]; exact HR.out.drop [devA _ _] _⟩
    · have HF : Hid (flushF D = (0, restD D)) := by show _ = _; unfold flushF; rw [if_neg h1, if_neg h0]
      refine (call_drop (Lib.hid ⟨h1, h0⟩) HT1).mono ?_
      rintro e w2 ⟨rfl, hw2⟩
      have HR := Lib.hid (HJ.out _ _ hw2)
      clear hw2 h1 h0
      go_wp2
      go_ret
      exact ⟨by (first | (rw [HF.out]; done) | (rw [HF.out]; rfl)), by rw [HF.out]; exact HR.out.drop [devA _ _] _⟩
end
end Go.Proofs.Ytbfmgdkiigkioaa

/- The walk of what Write lets do, and of Write. -/
import Derived.Test.YtbfmgdkiigkioaaStep
import Derived.Test.YtbfmgdkiigkioaaCall
namespace Go.Proofs.Ytbfmgdkiigkioaa
open Go.RowKit Go.LawEnd

def addD (D : Dv) (p : Wr) : Dv := { D with opn := D.opn ++ [p] }
set_option maxRecDepth 100000 in
set_option maxHeartbeats 6400000 in
theorem write_do {T : Nat → Prop} {d b3 b4 b5 : Nat} {D : Dv} {s z : Int} {w : World} (HLE : Hid (D.opn.length ≤ 100000))
    (h : Hid (Sep (devA d D :: [blkA b3 26 #[.pointer (some ⟨d, 0, none⟩)], blkA b4 3 #[.int .i64 s], blkA b5 34 (markC z).toArray]) w T)) :
    Calls Try.prog 31 #[.pointer (some ⟨b3, 0, none⟩), .pointer (some ⟨b4, 0, none⟩), .pointer (some ⟨b5, 0, none⟩)] w fun e w' => (∃ v, e = .returned v) ∧
      Hv w T (devA d (addD D (s, z)) :: [blkA b3 26 #[.pointer (some ⟨d, 0, none⟩)], blkA b4 3 #[.int .i64 s], blkA b5 34 (markC z).toArray]) w' := by
  obtain ⟨AF, cF, AO, cO, AP, cP, k0, k1, k2, hv, hpn⟩ := dev_cells (Hv.start h.out)
  have HPN := Lib.hid hpn
  clear hpn
  have HX00 : Hid (Hv w T [wrA (.slice AO D.opn.length cO) D.opn, blkA d 62 #[.slice AF D.firm.length cF, .slice AO D.opn.length cO, .slice AP D.plan.length cP]] w) := hv.pick [2, 0]
  have HX0 : Hid (Hv w T [wrA (.slice AO D.opn.length cO) D.opn, blkA d 62 #[.slice AF D.firm.length cF, .slice AO D.opn.length cO, .slice AP D.plan.length cP], blkA b3 26 #[.pointer (some ⟨d, 0, none⟩)], blkA b4 3 #[.int .i64 s], blkA b5 34 (markC z).toArray, blA (.slice AF D.firm.length cF) D.firm, plA (.slice AP D.plan.length cP) D.plan] w.drew) := hv.drew.pick [2, 0, 4, 5, 6, 1, 3]
  have HKP : Hid (∀ (u : Value) (l : List Wr) (cs : Array Value) (W : World), Hv w T [wrA u l, blkA d 62 cs, blkA b3 26 #[.pointer (some ⟨d, 0, none⟩)], blkA b4 3 #[.int .i64 s], blkA b5 34 (markC z).toArray, blA (.slice AF D.firm.length cF) D.firm, plA (.slice AP D.plan.length cP) D.plan] W →
      W.cell? ⟨b3, 0, none⟩ = some (.pointer (some ⟨d, 0, none⟩)) ∧ W.cell? ⟨b4, 0, none⟩ = some (.int .i64 s) ∧ W.rangeAt b5 0 (markC z) ∧ W.frozen? ⟨d, 1, none⟩ = false) := fun u l cs W hv =>
    ⟨by simpa using (hv.blk (i := 2) rfl).cell 0, by simpa using (hv.blk (i := 3) rfl).cell 0, blk_range (hv.blk (i := 4) rfl), (hv.blk (i := 1) rfl).frozen 1⟩
  have HST : Hid (∀ (u : Value) (l : List Wr) (cs : Array Value) (W : World), Hv w T [wrA u l, blkA d 62 cs, blkA b3 26 #[.pointer (some ⟨d, 0, none⟩)], blkA b4 3 #[.int .i64 s], blkA b5 34 (markC z).toArray, blA (.slice AF D.firm.length cF) D.firm, plA (.slice AP D.plan.length cP) D.plan] W →
      l = D.opn ++ [(s, z)] → cs = #[.slice AF D.firm.length cF, .slice AO D.opn.length cO, .slice AP D.plan.length cP] →
      Hv w T [wrA u l, blkA d 62 #[.slice AF D.firm.length cF, u, .slice AP D.plan.length cP], blkA b3 26 #[.pointer (some ⟨d, 0, none⟩)], blkA b4 3 #[.int .i64 s], blkA b5 34 (markC z).toArray, blA (.slice AF D.firm.length cF) D.firm, plA (.slice AP D.plan.length cP) D.plan] (W.setCell ⟨d, 1, none⟩ u) ∧
      Hv w T (devA d (addD D (s, z)) :: [blkA b3 26 #[.pointer (some ⟨d, 0, none⟩)], blkA b4 3 #[.int .i64 s], blkA b5 34 (markC z).toArray]) (W.setCell ⟨d, 1, none⟩ u)) := fun u l cs W hv hl hcs => by
    subst hl
    subst hcs
    have h1 := (hv.front 1 (by simp)).set 1 u
    refine ⟨h1.pick [1, 0, 2, 3, 4, 5, 6], ?_⟩
    refine dev_close (D := addD D (s, z)) (vF := .slice AF D.firm.length cF) (vO := u) (vP := .slice AP D.plan.length cP) ?_ ⟨fun e => by simp [addD] at e, HPN.out.2⟩
    exact h1.pick [0, 5, 1, 6, 2, 3, 4]
  have HBS : Hid (∀ W : World, (Instr.buildSlice 60 1 #[(0, .agg (wrC (s, z)).toArray)]).run Try.prog W = .ok (.slice (some ⟨W.heap.size, 0, none⟩) 1 1) (W.alloc (.cells (wrC (s, z)).toArray 66))) := fun W => by
    obtain ⟨i0, hi0, hz0, hz1, hz2⟩ := infoWr
    exact bslice_run _ 66 W _ i0 _ Try.underlying60 hi0 hz0 (by rw [hz1]; simp [wrC_length]) (by simp [wrC_length]) (by simp [wrC_length])
  obtain ⟨e3, e4, e5, e6⟩ := HKP.out _ _ _ _ HX0.out
  clear hv
  have HX := HX0
  clear HX0
  go_enter Try.func31, Try.ntmps31
  go_wp2_with fail
  refine wp_region_noPanic ?_
  refine wp_region_held_drew (S := (fun W => W.cell? ⟨b3, 0, none⟩ = some (.pointer (some ⟨d, 0, none⟩)) ∧ W.cell? ⟨b4, 0, none⟩ = some (.int .i64 s) ∧ W.rangeAt b5 0 (markC z) ∧ W.frozen? ⟨d, 1, none⟩ = false)) (by kernel_rfl) ⟨e3, e4, e5, e6⟩ (fun hHeld => ?_)
  refine wpAnyH_take (i := 0) (v := ?v0) rfl (by kernel_rfl) (by kernel_rfl) (by kernel_rfl) (fun _ _ _ h => h) (Or.inl ⟨by rfl, ?hy0⟩) (by assumption) ?rest0
  case hy0 =>
    intro w hSw
    (try dsimp only at hSw)
    go_simp
    try with_reducible rfl
  try simp only [Act.put, List.getElem_toArray, List.getElem_cons_zero, List.setIfInBounds_toArray, List.set_cons_zero, List.set_cons_succ]
  refine wpAnyH_take (i := 1) (v := ?v1) rfl (by kernel_rfl) (by kernel_rfl) (by kernel_rfl) (fun _ _ _ h => h) (Or.inl ⟨by rfl, ?hy1⟩) (by assumption) ?rest1
  case hy1 =>
    intro w hSw
    (try dsimp only at hSw)
    go_simp
    try with_reducible rfl
  try simp only [Act.put, List.getElem_toArray, List.getElem_cons_zero, List.getElem_cons_succ, List.setIfInBounds_toArray, List.set_cons_zero, List.set_cons_succ]
  refine wpAnyH_take (i := 2) (v := ?v2) rfl (by kernel_rfl) (by kernel_rfl) (by kernel_rfl) (fun _ _ _ h => h) (Or.inl ⟨by rfl, ?hy2⟩) (by assumption) ?rest2
  case hy2 =>
    intro w hSw
    (try dsimp only at hSw)
    go_simp
    try with_reducible rfl
  try simp only [Act.put, List.getElem_toArray, List.getElem_cons_zero, List.getElem_cons_succ, List.setIfInBounds_toArray, List.set_cons_zero, List.set_cons_succ]
  refine wpAnyH_take (i := 3) (v := ?v3) rfl (by kernel_rfl) (by kernel_rfl) (by kernel_rfl) (fun _ _ _ h => h) (Or.inl ⟨by rfl, ?hy3⟩) (by assumption) ?rest3
  case hy3 =>
    intro w hSw
    (try dsimp only at hSw)
    go_simp
    try with_reducible rfl
  try simp only [Act.put, List.getElem_toArray, List.getElem_cons_zero, List.getElem_cons_succ, List.setIfInBounds_toArray, List.set_cons_zero, List.set_cons_succ]
  refine wpAnyH_take (i := 5) (v := ?v5) rfl (by kernel_rfl) (by kernel_rfl) (by kernel_rfl) (fun _ _ _ h => h) (Or.inl ⟨by rfl, ?hy5⟩) (by assumption) ?rest5
  case hy5 =>
    intro w hSw
    (try dsimp only at hSw)
    go_simp
    try with_reducible rfl
  try simp only [Act.put, List.getElem_toArray, List.getElem_cons_zero, List.getElem_cons_succ, List.setIfInBounds_toArray, List.set_cons_zero, List.set_cons_succ]
  refine wpAnyH_take (i := 6) (v := .agg _) rfl (by kernel_rfl) (by kernel_rfl) (by kernel_rfl) (fun _ _ _ h => h) (yieldsIf_load_mid (by rfl) 34 (.tmp 2) rfl _ _ rfl (markC z) _ (fun w hSw => hSw.2.2.1) Try.underlying34 rfl (by rw [size34, markC_length])) (by assumption) ?_
  try simp only [Act.put, List.getElem_toArray, List.getElem_cons_zero, List.getElem_cons_succ, List.setIfInBounds_toArray, List.set_cons_zero, List.set_cons_succ]
  refine wpAnyH_take (i := 7) (v := .agg _) rfl (by kernel_rfl) (by kernel_rfl) (by kernel_rfl) (fun _ _ _ h => h) (yields_build rfl 66 (.tmp 8) (.tmp 9) rfl _ (built_wr s z)) (by assumption) ?_
  try simp only [Act.put, List.getElem_toArray, List.getElem_cons_zero, List.getElem_cons_succ, List.setIfInBounds_toArray, List.set_cons_zero, List.set_cons_succ]
  refine wpAnyH_ready (rs := [4, 8]) (by kernel_rfl) (by simp) ?_
  refine AllReadyH.cons rfl (fun K hK => ?_) (AllReadyH.cons rfl (fun K hK => ?_) AllReadyH.nil)
  · have c1 := (HX.out.blk (i := 1) rfl).cell 1
    go_simp
    refine hK.out _ _ hHeld (fun hHeld2 => ?_)
    clear hK K
    try simp only [Act.put, List.getElem_toArray, List.getElem_cons_zero, List.getElem_cons_succ, List.setIfInBounds_toArray, List.set_cons_zero, List.set_cons_succ]
    refine wpAnyH_ready (rs := [8]) (by kernel_rfl) (by simp) ?_
    refine AllReadyH.cons rfl (fun K hK => ?_) AllReadyH.nil
    refine step_bslice rfl 60 1 (.tmp 10) rfl (v := .slice (some ⟨w.drew.heap.size, 0, none⟩) 1 1) (w' := w.drew.alloc (.cells (wrC (s, z)).toArray 66)) ?_ ?_
    · exact HBS.out w.drew
    refine hK.out _ _ (HKP.out _ _ _ _ (HX.out.alloc_ _)) (fun hHeld3 => ?_)
    clear hK K
    try simp only [Act.put, List.getElem_toArray, List.getElem_cons_zero, List.getElem_cons_succ, List.setIfInBounds_toArray, List.set_cons_zero, List.set_cons_succ]
    refine wpAnyH_ready (rs := [9]) (by kernel_rfl) (by simp) ?_
    refine AllReadyH.cons rfl (fun K hK => ?_) AllReadyH.nil
    obtain ⟨g2, cap2, W7, hE, hH⟩ := app_wr HX.out HLE.out (s, z) 66
    refine step_append_run rfl (.tmp 7) (.tmp 11) 60 rfl (v' := .slice (some ⟨g2, 0, none⟩) (D.opn.length + 1) cap2) (w' := W7) ?_ ?_
    · exact hE
    have HX7 := Lib.hid hH
    clear hE hH
    refine hK.out _ _ (HKP.out _ _ _ _ HX7.out) (fun hHeld4 => ?_)
    clear hK K
    try simp only [Act.put, List.getElem_toArray, List.getElem_cons_zero, List.getElem_cons_succ, List.setIfInBounds_toArray, List.set_cons_zero, List.set_cons_succ]
    refine wpAnyH_take (i := 10) (v := ?vt10) rfl (by kernel_rfl) (by kernel_rfl) (by kernel_rfl) (fun _ _ _ h => h) (Or.inl ⟨by rfl, ?hyt10⟩) (by assumption) ?restt10
    case hyt10 =>
      intro w hSw
      (try dsimp only at hSw)
      go_simp
      try with_reducible rfl
    try simp only [Act.put, List.getElem_toArray, List.getElem_cons_zero, List.getElem_cons_succ, List.setIfInBounds_toArray, List.set_cons_zero, List.set_cons_succ]
    refine wpAnyH_take (i := 11) (v := ?vt11) rfl (by kernel_rfl) (by kernel_rfl) (by kernel_rfl) (fun _ _ _ h => h) (Or.inl ⟨by rfl, ?hyt11⟩) (by assumption) ?restt11
    case hyt11 =>
      intro w hSw
      (try dsimp only at hSw)
      go_simp
      try with_reducible rfl
    try simp only [Act.put, List.getElem_toArray, List.getElem_cons_zero, List.getElem_cons_succ, List.setIfInBounds_toArray, List.set_cons_zero, List.set_cons_succ]
    refine wpAnyH_ready (rs := [12]) (by kernel_rfl) (by simp) ?_
    refine AllReadyH.cons rfl (fun K hK => ?_) AllReadyH.nil
    have c5 := (HKP.out _ _ _ _ HX7.out).2.2.2
    have c6 := (HX7.out.blk (i := 1) rfl).cell 1
    go_simp
    have HX8 := Lib.hid (HST.out _ _ _ _ HX7.out rfl rfl)
    refine hK.out _ _ (HKP.out _ _ _ _ HX8.out.1) (fun hHeld5 => ?_)
    clear hK K
    refine wpAnyH_done (by kernel_rfl) ?_ _
    refine NoPanic.normal ?_
    go_wp2
    refine bodyPost_end (results_none rfl _ _ _) rfl ?_
    exact ⟨⟨_, rfl⟩, HX8.out.2⟩
  · refine step_bslice rfl 60 1 (.tmp 10) rfl (v := .slice (some ⟨w.drew.heap.size, 0, none⟩) 1 1) (w' := w.drew.alloc (.cells (wrC (s, z)).toArray 66)) ?_ ?_
    · exact HBS.out w.drew
    refine hK.out _ _ (HKP.out _ _ _ _ (HX.out.alloc_ _)) (fun hHeld3 => ?_)
    clear hK K
    try simp only [Act.put, List.getElem_toArray, List.getElem_cons_zero, List.getElem_cons_succ, List.setIfInBounds_toArray, List.set_cons_zero, List.set_cons_succ]
    refine wpAnyH_ready (rs := [4]) (by kernel_rfl) (by simp) ?_
    refine AllReadyH.cons rfl (fun K hK => ?_) AllReadyH.nil
    have c1 : (w.alloc (.cells (wrC (s, z)).toArray 66)).cell? ⟨d, 1, none⟩ = some (.slice AO D.opn.length cO) := by
      have := ((HX00.out.alloc_ (.cells (wrC (s, z)).toArray 66)).blk (i := 1) rfl).cell 1
      simpa using this
    go_simp
    refine hK.out _ _ hHeld3 (fun hHeld2 => ?_)
    clear hK K
    try simp only [Act.put, List.getElem_toArray, List.getElem_cons_zero, List.getElem_cons_succ, List.setIfInBounds_toArray, List.set_cons_zero, List.set_cons_succ]
    refine wpAnyH_ready (rs := [9]) (by kernel_rfl) (by simp) ?_
    refine AllReadyH.cons rfl (fun K hK => ?_) AllReadyH.nil
    obtain ⟨g2, cap2, W7, hE, hH⟩ := app_wr HX.out HLE.out (s, z) 66
    refine step_append_run rfl (.tmp 7) (.tmp 11) 60 rfl (v' := .slice (some ⟨g2, 0, none⟩) (D.opn.length + 1) cap2) (w' := W7) ?_ ?_
    · exact hE
    have HX7 := Lib.hid hH
    clear hE hH
    refine hK.out _ _ (HKP.out _ _ _ _ HX7.out) (fun hHeld4 => ?_)
    clear hK K
    try simp only [Act.put, List.getElem_toArray, List.getElem_cons_zero, List.getElem_cons_succ, List.setIfInBounds_toArray, List.set_cons_zero, List.set_cons_succ]
    refine wpAnyH_take (i := 10) (v := ?vu10) rfl (by kernel_rfl) (by kernel_rfl) (by kernel_rfl) (fun _ _ _ h => h) (Or.inl ⟨by rfl, ?hyu10⟩) (by assumption) ?restu10
    case hyu10 =>
      intro w hSw
      (try dsimp only at hSw)
      go_simp
      try with_reducible rfl
    try simp only [Act.put, List.getElem_toArray, List.getElem_cons_zero, List.getElem_cons_succ, List.setIfInBounds_toArray, List.set_cons_zero, List.set_cons_succ]
    refine wpAnyH_take (i := 11) (v := ?vu11) rfl (by kernel_rfl) (by kernel_rfl) (by kernel_rfl) (fun _ _ _ h => h) (Or.inl ⟨by rfl, ?hyu11⟩) (by assumption) ?restu11
    case hyu11 =>
      intro w hSw
      (try dsimp only at hSw)
      go_simp
      try with_reducible rfl
    try simp only [Act.put, List.getElem_toArray, List.getElem_cons_zero, List.getElem_cons_succ, List.setIfInBounds_toArray, List.set_cons_zero, List.set_cons_succ]
    refine wpAnyH_ready (rs := [12]) (by kernel_rfl) (by simp) ?_
    refine AllReadyH.cons rfl (fun K hK => ?_) AllReadyH.nil
    have c5 := (HKP.out _ _ _ _ HX7.out).2.2.2
    have c6 := (HX7.out.blk (i := 1) rfl).cell 1
    go_simp
    have HX8 := Lib.hid (HST.out _ _ _ _ HX7.out rfl rfl)
    refine hK.out _ _ (HKP.out _ _ _ _ HX8.out.1) (fun hHeld5 => ?_)
    clear hK K
    refine wpAnyH_done (by kernel_rfl) ?_ _
    refine NoPanic.normal ?_
    go_wp2
    refine bodyPost_end (results_none rfl _ _ _) rfl ?_
    exact ⟨⟨_, rfl⟩, HX8.out.2⟩
def writeF (D : Dv) (s z : Int) : Int × Dv :=
  if there D s = true then (if fateD D = 1 then (20, restD D) else if fateD D = 0 then (0, addD (restD D) (s, z)) else (0, restD D)) else (10, D)
set_option maxRecDepth 100000 in
set_option maxHeartbeats 3200000 in
theorem write_any {T : Nat → Prop} {d : Nat} {D : Dv} {w : World} (s z : Int) (HLE : Hid (D.opn.length ≤ 100000)) (h : Hid (Sep [devA d D] w T)) :
    Calls Try.prog 13 #[.pointer (some ⟨d, 0, none⟩), .int .i64 s, .agg (markC z).toArray] w fun e w' => e = .returned (.int .i64 (writeF D s z).1) ∧ Hv w T [devA d (writeF D s z).2] w' := by
  go_enter Try.func13, Try.ntmps13
  go_wp2_with fail
  obtain ⟨b3, hb3⟩ : ∃ y, y = w.heap.size := ⟨_, rfl⟩
  obtain ⟨b4, hb4⟩ : ∃ y, y = w.heap.size + 1 := ⟨_, rfl⟩
  obtain ⟨b5, hb5⟩ : ∃ y, y = w.heap.size + 1 + 1 := ⟨_, rfl⟩
  generalize hA : ((w.alloc (.cells #[.pointer (some ⟨d, 0, none⟩)] 26)).alloc (.cells #[.int .i64 s] 3)).alloc (.cells (markC z).toArray 34) = V
  have HV : Hid (Hv w T (devA d D :: [blkA b3 26 #[.pointer (some ⟨d, 0, none⟩)], blkA b4 3 #[.int .i64 s], blkA b5 34 (markC z).toArray]) V) := by
    have h1 := (((Hv.start h.out).alloc 26 #[.pointer (some ⟨d, 0, none⟩)]).alloc 3 #[.int .i64 s]).alloc 34 (markC z).toArray
    simp only [World.size_alloc] at h1
    rw [hA, ← hb3] at h1
    rw [hb4, hb5, ← hb3]
    exact h1.pick [3, 2, 1, 0]
  rw [← hb5]
  rw [← hb4]
  rw [← hb3]
  clear hA hb3 hb4 hb5
  obtain ⟨T1, hT1, hJ⟩ := HV.out.all
  have HT1 := Lib.hid hT1
  have HJ := Lib.hid hJ
  obtain ⟨T2, hT2, _⟩ := Hv.use [devA d D] _ HV.out
  have HT2 := Lib.hid hT2
  have k3 : V.cell? ⟨b3, 0, none⟩ = some (.pointer (some ⟨d, 0, none⟩)) := by simpa using (HV.out.blk (i := 1) rfl).cell 0
  have k4 : V.cell? ⟨b4, 0, none⟩ = some (.int .i64 s) := by simpa using (HV.out.blk (i := 2) rfl).cell 0
  clear hT1 hJ hT2 h
  by_cases hth : there D s = true
  · have HF : Hid (writeF D s z = if fateD D = 1 then (20, restD D) else if fateD D = 0 then (0, addD (restD D) (s, z)) else (0, restD D)) := by show _ = _; unfold writeF; rw [if_pos hth]
    have HTH := Lib.hid hth
    clear hth
    go_wp2_with (first
      | (go_at_call 29; refine (check_yes HT2 HTH).mono ?_; rintro e w2 ⟨rfl, rfl⟩)
      | fail)
    by_cases h1 : fateD D = 1
    · refine (call_fail (Lib.hid h1) HT1).mono ?_
      rintro e w2 ⟨rfl, hw2⟩
      have HR := Lib.hid (HJ.out _ _ hw2)
      rw [if_pos h1] at HF
      clear hw2 h1
      go_wp2
      go_ret
      exact ⟨by (first | (rw [HF.out]; done) | (rw [HF.out]; rfl)), by rw [HF.out]; exact HR.out.drop [devA _ _] _⟩
    · rw [if_neg h1] at HF
      by_cases h0 : fateD D = 0
      · rw [if_pos h0] at HF
        refine (call_write (R' := [blkA b3 26 #[.pointer (some ⟨d, 0, none⟩)], blkA b4 3 #[.int .i64 s], blkA b5 34 (markC z).toArray]) (D2 := addD (restD D) (s, z)) (Lib.hid h0) HT1 (Lib.hid (fun W hW => ?_))).mono ?_
        · obtain ⟨T3, hT3, hJ3⟩ := hW.all
          exact (write_do (D := restD D) HLE (Lib.hid hT3)).mono fun e w' hw => ⟨hw.1, hJ3 _ _ hw.2⟩
        · rintro e w2 ⟨rfl, hw2⟩
          have HR := Lib.hid (HJ.out _ _ hw2)
          clear hw2 h1 h0
          go_wp2
          go_ret
          exact ⟨by (first | (rw [HF.out]; done) | (rw [HF.out]; rfl)), by rw [HF.out]; exact HR.out.drop [devA _ _] _⟩
      · refine (call_drop (Lib.hid ⟨h1, h0⟩) HT1).mono ?_
        rintro e w2 ⟨rfl, hw2⟩
        have HR := Lib.hid (HJ.out _ _ hw2)
        rw [if_neg h0] at HF
        clear hw2 h1 h0
        go_wp2
        go_ret
        exact ⟨by (first | (rw [HF.out]; done) | (rw [HF.out]; rfl)), by rw [HF.out]; exact HR.out.drop [devA _ _] _⟩
  · have HF : Hid (writeF D s z = (10, D)) := by show _ = _; unfold writeF; rw [if_neg hth]
    have HTH := Lib.hid hth
    clear hth
    go_wp2_with (first
      | (go_at_call 29; refine (check_no HT2 HTH).mono ?_; rintro e w2 ⟨rfl, rfl⟩)
      | fail)
    go_ret
    exact ⟨by (first | (rw [HF.out]; done) | (rw [HF.out]; rfl)), by rw [HF.out]; exact HV.out.drop [devA _ _] _⟩
end Go.Proofs.Ytbfmgdkiigkioaa

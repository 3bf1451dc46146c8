/- The walk of DevCrashes. -/
import Derived.Test.YtbfmgdkiigkioaaPlays
import Derived.Test.YtbfmgdkiigkioaaRefCrash
namespace Go.Proofs.Ytbfmgdkiigkioaa
open Go.RowKit Go.LawEnd

theorem RowB.below {w w' : World} {v : Value} {ks : List Bool} (h : RowB w v ks) (hb : Below w.heap.size w w') : RowB w' v ks := by
  obtain ⟨A, c, e, hc⟩ := h
  refine ⟨A, c, e, fun j hj => ?_⟩
  obtain ⟨kb, ko, h1, h2, h3⟩ := hc j hj
  exact ⟨kb, ko, h1, by have := hb.size; omega, (hb.cell (p := ⟨kb, ko + j, none⟩) h2).trans h3⟩
theorem kept_mem : ∀ {l : List Wr} {ks : List Bool} {p : Wr}, p ∈ kept l ks → p ∈ l
  | [], ks, p, h => by cases ks <;> simp [kept] at h
  | a :: l, [], p, h => by simp [kept] at h
  | a :: l, b :: ks, p, h => by
    rw [kept] at h
    rcases List.mem_append.1 h with h | h
    · cases b
      · simp at h
      · simp at h; rw [h]; exact List.mem_cons_self ..
    · exact List.mem_cons_of_mem _ (kept_mem h)
theorem inv_crash {n : Nat} {D : Dv} (hb : OkB D) (hl : D.firm.length = n) (ks : List Bool) : Inv n 0 (crashD D ks) :=
  ⟨rfl, rfl, (fun _ h => (by cases h)), ⟨flushL_mem hb.1 (fun p hp => hb.2 p (kept_mem hp)), (fun _ h => (by cases h))⟩, by show (flushL _ _).length = n; rw [flushL_length]; exact hl, Nat.le_refl _⟩
set_option maxRecDepth 100000 in
set_option maxHeartbeats 6400000 in
theorem crashes_bad (A : Option Addr) (c : Nat) (m : Int) (l : List Cl) (vK : Value) (ks : List Bool) (w : World) (hK : Hid (RowB w vK ks)) (hbad : Hid (¬ (1 ≤ m ∧ m ≤ 40 ∧ l.length ≤ 80 ∧ ks.length ≤ 100))) :
    Calls Try.prog 6 #[.int .i64 m, .slice A l.length c, vK] w (Yes w) := by
  obtain ⟨AK, cK, rfl, _⟩ := hK.out
  obtain ⟨L, hL⟩ : ∃ L, L = l.length := ⟨_, rfl⟩
  obtain ⟨LK, hLK⟩ : ∃ L, L = ks.length := ⟨_, rfl⟩
  rw [← hL, ← hLK] at hbad
  rw [← hL, ← hLK]
  clear hL hLK hK
  have hb0 := hbad.out
  have HV : Hid (Hv w No [] w) := Hv.begin w
  by_cases h1 : m < 1
  · have d1 : decide (m < 1) = true := decide_eq_true h1
    clear hb0 hbad
    go_enter Try.func6, Try.ntmps6
    go_wp2_with fail
    refine (awake_any _).mono ?_
    rintro e w30 ⟨rfl, hb⟩
    have HB := Lib.hid (HV.out.still hb).below
    clear hb
    go_wp2
    go_ret
    exact ⟨rfl, HB.out⟩
  · have d1 : decide (m < 1) = false := decide_eq_false h1
    by_cases h2 : 40 < m
    · have d2 : decide (40 < m) = true := decide_eq_true h2
      clear hb0 hbad
      go_enter Try.func6, Try.ntmps6
      go_wp2_with fail
      refine (awake_any _).mono ?_
      rintro e w30 ⟨rfl, hb⟩
      have HB := Lib.hid (HV.out.still hb).below
      clear hb
      go_wp2
      go_ret
      exact ⟨rfl, HB.out⟩
    · have d2 : decide (40 < m) = false := decide_eq_false h2
      by_cases h3 : L ≤ 80
      · have d3 : decide ((L : Int) ≤ 80) = true := decide_eq_true (by omega)
        have d4 : decide ((100 : Int) < (LK : Int)) = true := decide_eq_true (by omega)
        clear hb0 hbad
        go_enter Try.func6, Try.ntmps6
        go_wp2_with fail
        refine (few_any _ _ _ _).mono ?_
        rintro e w2 ⟨rfl, rfl⟩
        rw [d3]
        go_wp2_with fail
        refine (awake_any _).mono ?_
        rintro e w30 ⟨rfl, hb⟩
        have HB := Lib.hid (HV.out.still hb).below
        clear hb
        go_wp2
        go_ret
        exact ⟨rfl, HB.out⟩
      · have d3 : decide ((L : Int) ≤ 80) = false := decide_eq_false (by omega)
        clear hb0 hbad
        go_enter Try.func6, Try.ntmps6
        go_wp2_with fail
        refine (few_any _ _ _ _).mono ?_
        rintro e w2 ⟨rfl, rfl⟩
        rw [d3]
        go_wp2_with fail
        refine (awake_any _).mono ?_
        rintro e w30 ⟨rfl, hb⟩
        have HB := Lib.hid (HV.out.still hb).below
        clear hb
        go_wp2
        go_ret
        exact ⟨rfl, HB.out⟩
set_option maxRecDepth 100000 in
set_option maxHeartbeats 6400000 in
theorem crashes_good (A : Option Addr) (c n : Nat) (l : List Cl) (vK : Value) (ks : List Bool) (w : World) (hK : Hid (RowB w vK ks)) (hg : Hid (1 ≤ n ∧ n ≤ 40 ∧ l.length ≤ 80 ∧ ks.length ≤ 100)) (hA : Hid (ClArg w A l)) :
    Calls Try.prog 6 #[.int .i64 (n : Int), .slice A l.length c, vK] w (Yes w) := by
  obtain ⟨AK, cK, rfl, _⟩ := hK.out
  obtain ⟨L, hL⟩ : ∃ L, L = l.length := ⟨_, rfl⟩
  obtain ⟨LK, hLK⟩ : ∃ L, L = ks.length := ⟨_, rfl⟩
  have HL := Lib.hid hL
  have HLK := Lib.hid hLK
  rw [← hL, ← hLK] at hg
  rw [← hLK] at hK
  rw [← hL, ← hLK]
  clear hL hLK
  obtain ⟨g1, g2, g3, g4⟩ := hg.out
  have d1 : decide ((n : Int) < 1) = false := decide_eq_false (by omega)
  have d2 : decide (40 < (n : Int)) = false := decide_eq_false (by omega)
  have d3 : decide ((L : Int) ≤ 80) = true := decide_eq_true (by omega)
  have d4 : decide ((100 : Int) < (LK : Int)) = false := decide_eq_false (by omega)
  go_enter Try.func6, Try.ntmps6
  go_wp2_with fail
  refine (few_any _ _ _ _).mono ?_
  rintro e w2 ⟨rfl, rfl⟩
  rw [d3]
  go_wp2_with fail
  refine (new_yes n _ g1 (by omega)).mono ?_
  rintro e w1 ⟨d, rfl, h1⟩
  have HV1 := Lib.hid h1
  clear h1
  go_wp2_with fail
  refine (rnew_any n (by omega) _).mono ?_
  rintro e w2 ⟨r, rfl, h2⟩
  have H0 : Hid (Hv w No [devA d (D0 n), refA r (D0 n)] w2) := (HV1.out.add h2).pick [1, 0]
  clear h2 HV1
  go_wp2_with fail
  go_loopw [10] (fun i wr => ∃ k : Nat, k ≤ L ∧ i = .int .i64 k ∧ ∃ D, Inv2 n k D ∧ Hv w No [devA d D, refA r D] wr) (fun i _ => L - (intOf i).toNat)
  case atStart => exact ⟨0, by omega, rfl, _, inv2_new n, H0.out⟩
  case round =>
    clear H0
    obtain ⟨k, hk, rfl, D, hinv, hi⟩ := hrel
    have HI := Lib.hid hi
    have HN := Lib.hid hinv
    clear hi hinv
    by_cases hkl : k < L
    · have hkl' : k < l.length := by rw [← HL.out]; exact hkl
      obtain ⟨ab, ao, rfl, _, c0, c1, c2⟩ := hA.out.below HI.out.below k hkl'
      obtain ⟨y, hy⟩ : ∃ y, y = l[k] := ⟨_, rfl⟩
      rw [← hy] at c0 c1 c2
      clear hy hkl'
      obtain ⟨ask, s, z⟩ := y
      go_wp2_with fail
      obtain ⟨T1, hT1, hJ1⟩ := HI.out.all
      refine (does_all (n := n) (k := k) (by omega) ask s z HN (Lib.hid hT1)).mono ?_
      rintro e W2 ⟨E, rfl, hE, h2⟩
      have HX2 : Hid (Hv w No [devA d E, refA r E] W2) := hJ1 _ _ h2
      have HNE := Lib.hid hE
      clear h2 hT1 hJ1 c0 c1 c2 hE HI
      go_wp2
      go_roundw
      case rel => exact ⟨k + 1, by omega, rfl, _, HNE.out, HX2.out⟩
      case measure => simp [intOf]; omega
    · obtain rfl : k = L := by omega
      clear hkl hk hA HL
      have HRB : Hid (RowB wr (.slice AK LK cK) ks) := hK.out.below HI.out.below
      have HLO : Hid (D.opn.length ≤ 100000) := by show _ ≤ _; have := HN.out.olen; omega
      have HFN : Hid (D.firm ≠ [] ∧ D.firm.length ≤ 5000) := ⟨by intro e; have := HN.out.flen; rw [e] at this; simp at this; omega, by have := HN.out.flen; omega⟩
      go_wp2_with fail
      obtain ⟨T, hT, _⟩ := Hv.use [devA d D] _ HI.out
      by_cases hov : D.opn.length < ks.length
      · refine (crash_over ks HRB (Lib.hid hov) (Lib.hid hT)).mono ?_
        rintro e w3 ⟨rfl, rfl⟩
        obtain ⟨AF, cF, AO, cO, AP, cP, k0, k1, k2, _⟩ := ref_cells (HI.out.pick [1, 0])
        obtain ⟨nO, hnO⟩ : ∃ m, m = D.opn.length := ⟨_, rfl⟩
        rw [← HLK.out, ← hnO] at hov
        rw [← hnO] at k1
        have d5 : decide ((nO : Int) < (LK : Int)) = true := decide_eq_true (by omega)
        clear hT hnO k0 k2
        go_wp2_with fail
        refine (awake_any _).mono ?_
        rintro e w30 ⟨rfl, hb⟩
        have HB := Lib.hid (HI.out.still hb).below
        clear hb
        go_wp2
        go_ret
        exact ⟨rfl, HB.out⟩
      · refine (crash_any ks HRB (Lib.hid (by omega)) HLO HFN (Lib.hid HN.out.ok) (Lib.hid hT)).mono ?_
        rintro e w3 ⟨x, rfl, h3⟩
        have HV3 : Hid (Hv w No [refA r D, devA x (crashD D ks), devA d D] w3) := (HI.out.add h3).pick [2, 0, 1]
        clear h3 hT HI
        obtain ⟨AF, cF, AO, cO, AP, cP, k0, k1, k2, hv0⟩ := ref_cells HV3.out
        obtain ⟨nO, hnO⟩ : ∃ m, m = D.opn.length := ⟨_, rfl⟩
        have HOV : Hid (ks.length ≤ D.opn.length) := by show _ ≤ _; omega
        rw [← HLK.out, ← hnO] at hov
        rw [← hnO] at k1
        have d5 : decide ((nO : Int) < (LK : Int)) = false := decide_eq_false (by omega)
        have HNC : Hid (Inv n 0 (crashD D ks)) := inv_crash HN.out.okb HN.out.flen ks
        clear hnO k0 k2 hv0
        go_wp2_with fail
        obtain ⟨T, hT, _⟩ := Hv.use [refA r D] _ HV3.out
        refine (rcrash_any ks (Lib.hid (hK.out.below HV3.out.below)) HOV HLO (Lib.hid HFN.out.2) (Lib.hid HN.out.ok) (Lib.hid hT)).mono ?_
        rintro e w4 ⟨vC, rfl, h4⟩
        have HV4 : Hid (Hv w No [blA vC (crashD D ks).firm, devA x (crashD D ks), devA d D, refA r D] w4) := (HV3.out.add h4).pick [0, 2, 3, 1]
        clear h4 hT HV3 k1
        obtain ⟨C, hC⟩ : ∃ C, C = crashD D ks := ⟨_, rfl⟩
        have HCO : Hid (C.opn = [] ∧ C.plan = []) := by show _ ∧ _; rw [hC]; exact ⟨rfl, rfl⟩
        rw [← hC] at HV4 HNC
        clear hC
        go_wp2_with fail
        obtain ⟨T, hT, _⟩ := Hv.use [devA x C] _ (HV4.out.pick [1, 0, 2, 3])
        refine (firmlaw_any (D := C) (Lib.hid (HV4.out.row (i := 0) rfl)) (Lib.hid HNC.out.okb) (Lib.hid (by have := HNC.out.flen; omega)) (Lib.hid hT)).mono ?_
        rintro e w5 ⟨rfl, hb⟩
        have HV5 : Hid (Hv w No [devA x C, devA d D, refA r D] w5) := (HV4.out.still hb).pick [1, 2, 3]
        clear hb hT HV4
        go_wp2_with fail
        obtain ⟨T, hT, _⟩ := Hv.use [devA x C] _ HV5.out
        refine (open_any (Lib.hid hT)).mono ?_
        rintro e w6 ⟨rfl, rfl⟩
        rw [show ((C.opn.length : Nat) : Int) = 0 by rw [HCO.out.1]; rfl]
        clear hT
        go_wp2_with fail
        obtain ⟨T, hT, _⟩ := Hv.use [devA x C] _ HV5.out
        refine (planned_any (Lib.hid hT)).mono ?_
        rintro e w7 ⟨rfl, rfl⟩
        rw [show ((C.plan.length : Nat) : Int) = 0 by rw [HCO.out.2]; rfl]
        clear hT
        go_wp2_with fail
        refine (mark_any 99 _).mono ?_
        rintro e w8 ⟨rfl, hb⟩
        rw [show (99 : Int) % 256 = 99 from rfl]
        have HV8 := Lib.hid (HV5.out.still hb)
        clear hb HV5
        go_wp2_with fail
        obtain ⟨T, hT, hJ⟩ := Hv.use [devA x C] _ HV8.out
        refine (write_any 0 99 (Lib.hid (by rw [HCO.out.1]; exact Nat.zero_le _)) (Lib.hid hT)).mono ?_
        rintro e w9 ⟨rfl, h9⟩
        obtain ⟨C2, hC2⟩ : ∃ y, y = (writeF C 0 99).2 := ⟨_, rfl⟩
        have HN2 : Hid (Inv n 1 C2) := by show Inv _ _ _; rw [hC2]; exact HNC.out.write (by decide)
        have HV9 : Hid (Hv w No [devA x C2, devA d D, refA r D] w9) := by rw [hC2]; exact hJ _ _ h9
        clear h9 hT hJ HV8 hC2
        go_wp2_with fail
        obtain ⟨T, hT, hJ⟩ := Hv.use [devA x C2] _ HV9.out
        refine (flush_any (Lib.hid (by have := HN2.out.olen; omega)) (Lib.hid HN2.out.ok) (Lib.hid hT)).mono ?_
        rintro e w10 ⟨rfl, h10⟩
        have HV10 : Hid (Hv w No [refA r D, devA d D] w10) := (hJ _ _ h10).pick [2, 1]
        clear h10 hT hJ HV9
        go_wp2_with fail
        obtain ⟨AF, cF, AO, cO, AP, cP, k0, k1, k2, hv⟩ := ref_cells HV10.out
        have HROW := Lib.hid (hv.row (i := 1) rfl)
        have HR0 := (hv.blk (i := 0) rfl).lt
        obtain ⟨nF, hnF⟩ : ∃ m, m = D.firm.length := ⟨_, rfl⟩
        obtain ⟨nO, hnO⟩ : ∃ m, m = D.opn.length := ⟨_, rfl⟩
        have HNF := Lib.hid hnF
        have HNO := Lib.hid hnO
        rw [← hnF] at k0
        rw [← hnO] at k1
        have HKQ : Hid (∀ W, Below w10.heap.size w10 W → W.cell? ⟨r, 0, none⟩ = some (.slice AF nF cF) ∧ W.cell? ⟨r, 1, none⟩ = some (.slice AO nO cO)) := fun W hW =>
          ⟨(hW.cell (p := ⟨r, 0, none⟩) HR0).trans k0, (hW.cell (p := ⟨r, 1, none⟩) HR0).trans k1⟩
        have HX : Hid (Hv w10 No [] w10.drew) := (Hv.begin w10).drew
        have HY : Hid (Hv w No [devA d D, refA r D] w10.drew) := HV10.out.drew.pick [1, 0]
        clear hv hnF hnO k0 k1 k2 HR0
        refine wp_region_noPanic ?_
        refine wp_region_held_drew (S := (fun W => W.cell? ⟨r, 0, none⟩ = some (.slice AF nF cF) ∧ W.cell? ⟨r, 1, none⟩ = some (.slice AO nO cO))) (by kernel_rfl) (HKQ.out _ HX.out.below) (fun hHeld => ?_)
        refine wpAnyH_take (i := 0) (v := ?v0) rfl (by kernel_rfl) (by kernel_rfl) (by kernel_rfl) (fun _ _ _ h => h) (Or.inl ⟨by rfl, ?hy0⟩) (by assumption) ?rest0
        case hy0 =>
          intro w hSw
          (try dsimp only at hSw)
          go_simp
          try with_reducible rfl
        try simp only [Act.put, List.getElem_toArray, List.getElem_cons_zero, List.setIfInBounds_toArray, List.set_cons_zero, List.set_cons_succ]
        refine wpAnyH_take (i := 1) (v := ?v1) rfl (by kernel_rfl) (by kernel_rfl) (by kernel_rfl) (fun _ _ _ h => h) (Or.inl ⟨by rfl, ?hy1⟩) (by assumption) ?rest1
        case hy1 =>
          intro w hSw
          (try dsimp only at hSw)
          go_simp
          try with_reducible rfl
        try simp only [Act.put, List.getElem_toArray, List.getElem_cons_zero, List.getElem_cons_succ, List.setIfInBounds_toArray, List.set_cons_zero, List.set_cons_succ]
        refine wpAnyH_take (i := 2) (v := ?v2) rfl (by kernel_rfl) (by kernel_rfl) (by kernel_rfl) (fun _ _ _ h => h) (Or.inl ⟨by rfl, ?hy2⟩) (by assumption) ?rest2
        case hy2 =>
          intro w hSw
          (try dsimp only at hSw)
          go_simp
          try with_reducible rfl
        try simp only [Act.put, List.getElem_toArray, List.getElem_cons_zero, List.getElem_cons_succ, List.setIfInBounds_toArray, List.set_cons_zero, List.set_cons_succ]
        refine wpAnyH_take (i := 3) (v := ?v3) rfl (by kernel_rfl) (by kernel_rfl) (by kernel_rfl) (fun _ _ _ h => h) (Or.inl ⟨by rfl, ?hy3⟩) (by assumption) ?rest3
        case hy3 =>
          intro w hSw
          (try dsimp only at hSw)
          go_simp
          try with_reducible rfl
        try simp only [Act.put, List.getElem_toArray, List.getElem_cons_zero, List.getElem_cons_succ, List.setIfInBounds_toArray, List.set_cons_zero, List.set_cons_succ]
        refine wpAnyH_take (i := 4) (v := ?v4) rfl (by kernel_rfl) (by kernel_rfl) (by kernel_rfl) (fun _ _ _ h => h) (Or.inl ⟨by rfl, ?hy4⟩) (by assumption) ?rest4
        case hy4 =>
          intro w hSw
          (try dsimp only at hSw)
          go_simp
          try with_reducible rfl
        try simp only [Act.put, List.getElem_toArray, List.getElem_cons_zero, List.getElem_cons_succ, List.setIfInBounds_toArray, List.set_cons_zero, List.set_cons_succ]
        refine wpAnyH_ready (rs := [5]) (by kernel_rfl) (by simp) ?_
        refine AllReadyH.cons rfl (fun K hK => ?_) AllReadyH.nil
        go_simp
        obtain ⟨T, hT, _⟩ := Hv.use [devA d D] _ HY.out
        have HRW : Hid (w10.drew.ownsRow 0 34 64 (.slice AF nF cF) D.firm.length (bls D.firm)) := by
          show World.ownsRow _ _ _ _ _ _ _
          rw [HNF.out]
          exact row_below HROW.out HX.out.below
        refine (firmlaw_any (D := D) HRW (Lib.hid HN.out.okb) (Lib.hid HFN.out.2) (Lib.hid hT)).mono ?_
        rintro e w11 ⟨rfl, hb⟩
        have HX1 := Lib.hid (HX.out.still hb)
        have HY1 := Lib.hid (HY.out.still hb)
        clear hb hT HX HY HRW
        refine hK.out _ _ (HKQ.out _ HX1.out.below) (fun hHeld1 => ?_)
        clear hK K
        try simp only [Act.put, List.getElem_toArray, List.getElem_cons_zero, List.getElem_cons_succ, List.setIfInBounds_toArray, List.set_cons_zero, List.set_cons_succ]
        refine wpAnyH_take (i := 6) (v := ?v6) rfl (by kernel_rfl) (by kernel_rfl) (by kernel_rfl) (fun _ _ _ h => h) (Or.inl ⟨by rfl, ?hy6⟩) (by assumption) ?rest6
        case hy6 =>
          intro w hSw
          (try dsimp only at hSw)
          go_simp
          try with_reducible rfl
        try simp only [Act.put, List.getElem_toArray, List.getElem_cons_zero, List.getElem_cons_succ, List.setIfInBounds_toArray, List.set_cons_zero, List.set_cons_succ]
        refine wpAnyH_take (i := 7) (v := ?v7) rfl (by kernel_rfl) (by kernel_rfl) (by kernel_rfl) (fun _ _ _ h => h) (Or.inl ⟨by rfl, ?hy7⟩) (by assumption) ?rest7
        case hy7 =>
          intro w hSw
          (try dsimp only at hSw)
          go_simp
          try with_reducible rfl
        try simp only [Act.put, List.getElem_toArray, List.getElem_cons_zero, List.getElem_cons_succ, List.setIfInBounds_toArray, List.set_cons_zero, List.set_cons_succ]
        refine wpAnyH_take (i := 9) (v := ?v9) rfl (by kernel_rfl) (by kernel_rfl) (by kernel_rfl) (fun _ _ _ h => h) (Or.inl ⟨by rfl, ?hy9⟩) (by assumption) ?rest9
        case hy9 =>
          intro w hSw
          (try dsimp only at hSw)
          go_simp
          try with_reducible rfl
        try simp only [Act.put, List.getElem_toArray, List.getElem_cons_zero, List.getElem_cons_succ, List.setIfInBounds_toArray, List.set_cons_zero, List.set_cons_succ]
        refine wpAnyH_take (i := 10) (v := ?v10) rfl (by kernel_rfl) (by kernel_rfl) (by kernel_rfl) (fun _ _ _ h => h) (Or.inl ⟨by rfl, ?hy10⟩) (by assumption) ?rest10
        case hy10 =>
          intro w hSw
          (try dsimp only at hSw)
          go_simp
          try with_reducible rfl
        try simp only [Act.put, List.getElem_toArray, List.getElem_cons_zero, List.getElem_cons_succ, List.setIfInBounds_toArray, List.set_cons_zero, List.set_cons_succ]
        refine wpAnyH_take (i := 11) (v := ?v11) rfl (by kernel_rfl) (by kernel_rfl) (by kernel_rfl) (fun _ _ _ h => h) (Or.inl ⟨by rfl, ?hy11⟩) (by assumption) ?rest11
        case hy11 =>
          intro w hSw
          (try dsimp only at hSw)
          go_simp
          try with_reducible rfl
        try simp only [Act.put, List.getElem_toArray, List.getElem_cons_zero, List.getElem_cons_succ, List.setIfInBounds_toArray, List.set_cons_zero, List.set_cons_succ]
        refine wpAnyH_take (i := 12) (v := ?v12) rfl (by kernel_rfl) (by kernel_rfl) (by kernel_rfl) (fun _ _ _ h => h) (Or.inl ⟨by rfl, ?hy12⟩) (by assumption) ?rest12
        case hy12 =>
          intro w hSw
          (try dsimp only at hSw)
          go_simp
          try with_reducible rfl
        try simp only [Act.put, List.getElem_toArray, List.getElem_cons_zero, List.getElem_cons_succ, List.setIfInBounds_toArray, List.set_cons_zero, List.set_cons_succ]
        refine wpAnyH_take (i := 13) (v := ?v13) rfl (by kernel_rfl) (by kernel_rfl) (by kernel_rfl) (fun _ _ _ h => h) (Or.inl ⟨by rfl, ?hy13⟩) (by assumption) ?rest13
        case hy13 =>
          intro w hSw
          (try dsimp only at hSw)
          go_simp
          try with_reducible rfl
        try simp only [Act.put, List.getElem_toArray, List.getElem_cons_zero, List.getElem_cons_succ, List.setIfInBounds_toArray, List.set_cons_zero, List.set_cons_succ]
        refine wpAnyH_ready (rs := [8]) (by kernel_rfl) (by simp) ?_
        refine AllReadyH.cons rfl (fun K hK => ?_) AllReadyH.nil
        go_simp
        obtain ⟨T, hT, _⟩ := Hv.use [devA d D] _ HY1.out
        refine (open_any (Lib.hid hT)).mono ?_
        rintro e w12 ⟨rfl, rfl⟩
        rw [← HNO.out]
        clear hT
        refine hK.out _ _ (HKQ.out _ HX1.out.below) (fun hHeld2 => ?_)
        clear hK K
        try simp only [Act.put, List.getElem_toArray, List.getElem_cons_zero, List.getElem_cons_succ, List.setIfInBounds_toArray, List.set_cons_zero, List.set_cons_succ]
        refine wpAnyH_take (i := 14) (v := ?v14) rfl (by kernel_rfl) (by kernel_rfl) (by kernel_rfl) (fun _ _ _ h => h) (Or.inl ⟨by rfl, ?hy14⟩) (by assumption) ?rest14
        case hy14 =>
          intro w hSw
          (try dsimp only at hSw)
          go_simp
          try with_reducible rfl
        try simp only [Act.put, List.getElem_toArray, List.getElem_cons_zero, List.getElem_cons_succ, List.setIfInBounds_toArray, List.set_cons_zero, List.set_cons_succ]
        refine wpAnyH_take (i := 15) (v := ?v15) rfl (by kernel_rfl) (by kernel_rfl) (by kernel_rfl) (fun _ _ _ h => h) (Or.inl ⟨by rfl, ?hy15⟩) (by assumption) ?rest15
        case hy15 =>
          intro w hSw
          (try dsimp only at hSw)
          go_simp
          try with_reducible rfl
        try simp only [Act.put, List.getElem_toArray, List.getElem_cons_zero, List.getElem_cons_succ, List.setIfInBounds_toArray, List.set_cons_zero, List.set_cons_succ]
        refine wpAnyH_take (i := 16) (v := ?v16) rfl (by kernel_rfl) (by kernel_rfl) (by kernel_rfl) (fun _ _ _ h => h) (Or.inl ⟨by rfl, ?hy16⟩) (by assumption) ?rest16
        case hy16 =>
          intro w hSw
          (try dsimp only at hSw)
          go_simp
          try with_reducible rfl
        try simp only [Act.put, List.getElem_toArray, List.getElem_cons_zero, List.getElem_cons_succ, List.setIfInBounds_toArray, List.set_cons_zero, List.set_cons_succ]
        refine wpAnyH_ready (rs := [17]) (by kernel_rfl) (by simp) ?_
        refine AllReadyH.cons rfl (fun K hK => ?_) AllReadyH.nil
        go_simp
        refine (awake_any _).mono ?_
        rintro e w13 ⟨rfl, hb⟩
        have HX2 := Lib.hid (HX1.out.still hb)
        have HY2 := Lib.hid (HY1.out.still hb)
        clear hb HX1 HY1
        refine hK.out _ _ (HKQ.out _ HX2.out.below) (fun hHeld3 => ?_)
        clear hK K
        try simp only [Act.put, List.getElem_toArray, List.getElem_cons_zero, List.getElem_cons_succ, List.setIfInBounds_toArray, List.set_cons_zero, List.set_cons_succ]
        refine wpAnyH_take (i := 18) (v := ?v18) rfl (by kernel_rfl) (by kernel_rfl) (by kernel_rfl) (fun _ _ _ h => h) (Or.inl ⟨by rfl, ?hy18⟩) (by assumption) ?rest18
        case hy18 =>
          intro w hSw
          (try dsimp only at hSw)
          go_simp
          try with_reducible rfl
        try simp only [Act.put, List.getElem_toArray, List.getElem_cons_zero, List.getElem_cons_succ, List.setIfInBounds_toArray, List.set_cons_zero, List.set_cons_succ]
        refine wpAnyH_take (i := 19) (v := ?v19) rfl (by kernel_rfl) (by kernel_rfl) (by kernel_rfl) (fun _ _ _ h => h) (Or.inl ⟨by rfl, ?hy19⟩) (by assumption) ?rest19
        case hy19 =>
          intro w hSw
          (try dsimp only at hSw)
          go_simp
          try with_reducible rfl
        try simp only [Act.put, List.getElem_toArray, List.getElem_cons_zero, List.getElem_cons_succ, List.setIfInBounds_toArray, List.set_cons_zero, List.set_cons_succ]
        refine wpAnyH_done (by kernel_rfl) ?_ _
        refine NoPanic.normal ?_
        clear hHeld hHeld1 hHeld2 hHeld3 HKQ
        go_wp2
        go_ret
        exact ⟨rfl, HY2.out.below⟩
end Go.Proofs.Ytbfmgdkiigkioaa

/- The walk of DevPlays. -/
import Derived.Test.YtbfmgdkiigkioaaFirmLaw
import Derived.Test.YtbfmgdkiigkioaaDoes2
import Derived.Test.YtbfmgdkiigkioaaNil
namespace Go.Proofs.Ytbfmgdkiigkioaa
open Go.RowKit Go.LawEnd

theorem wpAnyH_mono {P : Program} {md : Region.Mode} {ops : Array Oper} {Q : Exit → Act → World → Prop} {S S' : World → Prop} (hs : ∀ W, S' W → S W) :
    ∀ (fuel : Nat) (listed : Array Bool) (a : Act) (w : World), wpAnyH P md ops Q S' fuel listed a w → wpAnyH P md ops Q S fuel listed a w
  | 0, _, _, _, h => h
  | fuel + 1, _, _, _, h => ⟨h.1, fun i hi => wpOp_mono (fun _ _ h' => ⟨hs _ h'.1, wpAnyH_mono hs fuel _ _ _ h'.2⟩) (h.2 i hi)⟩
theorem Inv2.lens {n k : Nat} {D : Dv} (h : Inv2 n k D) (hk : k ≤ 1000) (hn : n ≤ 5000) : D.opn.length ≤ 100000 ∧ D.plan.length ≤ 50000 ∧ D.firm.length ≤ 5000 := ⟨by have := h.olen; omega, by have := h.plen; omega, by have := h.flen; omega⟩
set_option maxRecDepth 100000 in
set_option maxHeartbeats 6400000 in
theorem plays_bad (A : Option Addr) (c : Nat) (m : Int) (l : List Cl) (w : World) (hbad : Hid (¬ (1 ≤ m ∧ m ≤ 40 ∧ l.length ≤ 80))) :
    Calls Try.prog 5 #[.int .i64 m, .slice A l.length c] w (Yes w) := by
  obtain ⟨L, hL⟩ : ∃ L, L = l.length := ⟨_, rfl⟩
  rw [← hL] at hbad ⊢
  clear hL
  have hb0 := hbad.out
  have HV : Hid (Hv w No [] w) := Hv.begin w
  by_cases h40 : 40 < m
  · have d1 : decide (40 < m) = true := decide_eq_true h40
    by_cases h4 : m ≤ 4096
    · have d2 : decide (m ≤ 4096) = true := decide_eq_true h4
      clear hb0 hbad
      go_enter Try.func5, Try.ntmps5
      go_wp2_with fail
      refine (awake_any _).mono ?_
      rintro e w30 ⟨rfl, hb⟩
      have HB := Lib.hid (HV.out.still hb).below
      clear hb
      go_wp2
      go_ret
      exact ⟨rfl, HB.out⟩
    · have d2 : decide (m ≤ 4096) = false := decide_eq_false h4
      have d3 : decide (m < 1) = false := decide_eq_false (by omega)
      have d4 : decide (4096 < m) = true := decide_eq_true (by omega)
      clear hb0 hbad
      go_enter Try.func5, Try.ntmps5
      go_wp2_with fail
      refine (new_no m _ (Lib.hid (.inr (by omega)))).mono ?_
      rintro e w2 ⟨rfl, rfl⟩
      go_wp2_with fail
      refine (awake_any _).mono ?_
      rintro e w30 ⟨rfl, hb⟩
      have HB := Lib.hid (HV.out.still hb).below
      clear hb
      go_wp2
      go_ret
      exact ⟨rfl, HB.out⟩
  · have d1 : decide (40 < m) = false := decide_eq_false h40
    by_cases h1 : m < 1
    · have d3 : decide (m < 1) = true := decide_eq_true h1
      clear hb0 hbad
      go_enter Try.func5, Try.ntmps5
      go_wp2_with fail
      refine (new_no m _ (Lib.hid (.inl h1))).mono ?_
      rintro e w2 ⟨rfl, rfl⟩
      go_wp2_with fail
      refine (awake_any _).mono ?_
      rintro e w30 ⟨rfl, hb⟩
      have HB := Lib.hid (HV.out.still hb).below
      clear hb
      go_wp2
      go_ret
      exact ⟨rfl, HB.out⟩
    · have d3 : decide (m < 1) = false := decide_eq_false h1
      have d4 : decide (4096 < m) = false := decide_eq_false (by omega)
      have d5 : decide ((L : Int) ≤ 80) = false := decide_eq_false (by omega)
      obtain ⟨n, rfl⟩ := Int.eq_ofNat_of_zero_le (show 0 ≤ m by omega)
      have g1 : 1 ≤ n := by omega
      have g2 : n ≤ 40 := by omega
      clear hb0 hbad
      go_enter Try.func5, Try.ntmps5
      go_wp2_with fail
      refine (new_yes n _ g1 (by omega)).mono ?_
      rintro e w1 ⟨d, rfl, h1⟩
      have HV1 := Lib.hid (HV.out.add h1)
      clear h1 HV
      go_wp2_with fail
      refine (few_any _ _ _ _).mono ?_
      rintro e w2 ⟨rfl, rfl⟩
      rw [d5]
      go_wp2_with fail
      refine (awake_any _).mono ?_
      rintro e w30 ⟨rfl, hb⟩
      have HB := Lib.hid (HV1.out.still hb).below
      clear hb
      go_wp2
      go_ret
      exact ⟨rfl, HB.out⟩
set_option maxRecDepth 100000 in
set_option maxHeartbeats 6400000 in
theorem plays_good (A : Option Addr) (c n : Nat) (l : List Cl) (w : World) (hg : Hid (1 ≤ n ∧ n ≤ 40 ∧ l.length ≤ 80)) (hA : Hid (ClArg w A l)) :
    Calls Try.prog 5 #[.int .i64 (n : Int), .slice A l.length c] w (Yes w) := by
  obtain ⟨L, hL⟩ : ∃ L, L = l.length := ⟨_, rfl⟩
  have HL := Lib.hid hL
  rw [← hL] at hg ⊢
  clear hL
  obtain ⟨g1, g2, g3⟩ := hg.out
  have d1 : decide (40 < (n : Int)) = false := decide_eq_false (by omega)
  have d2 : decide ((n : Int) < 1) = false := decide_eq_false (by omega)
  have d3 : decide (4096 < (n : Int)) = false := decide_eq_false (by omega)
  have d5 : decide ((L : Int) ≤ 80) = true := decide_eq_true (by omega)
  go_enter Try.func5, Try.ntmps5
  go_wp2_with fail
  refine (new_yes n _ g1 (by omega)).mono ?_
  rintro e w1 ⟨d, rfl, h1⟩
  have HV1 := Lib.hid h1
  clear h1
  go_wp2_with fail
  refine (few_any _ _ _ _).mono ?_
  rintro e w2 ⟨rfl, rfl⟩
  rw [d5]
  go_wp2_with fail
  refine (rnew_any n (by omega) _).mono ?_
  rintro e w2 ⟨r, rfl, h2⟩
  have H0 : Hid (Hv w No [devA d (D0 n), refA r (D0 n)] w2) := (HV1.out.add h2).pick [1, 0]
  clear h2 HV1
  go_wp2_with fail
  go_loopw [8] (fun i wr => ∃ k : Nat, k ≤ L ∧ i = .int .i64 k ∧ ∃ D, Inv2 n k D ∧ Hv w No [devA d D, refA r D] wr) (fun i _ => L - (intOf i).toNat)
  case atStart => exact ⟨0, by omega, rfl, _, inv2_new n, H0.out⟩
  case round =>
    clear H0
    obtain ⟨k, hk, rfl, D, hinv, hi⟩ := hrel
    have HI := Lib.hid hi
    have HN := Lib.hid hinv
    clear hi hinv
    by_cases hkl : k < L
    · have hkl' : k < l.length := by rw [← HL.out]; exact hkl
      have HAR : Hid (∀ W, Below w.heap.size w W → ∃ b off, A = some ⟨b, off, none⟩ ∧ W.cell? ⟨b, off + k * 3, none⟩ = some (.int .i64 l[k].1) ∧ W.cell? ⟨b, off + k * 3 + 1, none⟩ = some (.int .i64 l[k].2.1) ∧ W.cell? ⟨b, off + k * 3 + 2, none⟩ = some (.int .i64 l[k].2.2)) := fun W hW => by
        obtain ⟨b, off, e, _, h⟩ := hA.out.below hW k hkl'
        exact ⟨b, off, e, h⟩
      obtain ⟨y, hy⟩ : ∃ y, y = l[k] := ⟨_, rfl⟩
      rw [← hy] at HAR
      clear hy hkl'
      obtain ⟨ask, s, z⟩ := y
      obtain ⟨ab, ao, rfl, c0, c1, c2⟩ := HAR.out wr HI.out.below
      have HARS : Hid (∀ W, Below w.heap.size w W → W.cell? ⟨ab, ao + k * 3, none⟩ = some (.int .i64 ask) ∧ W.cell? ⟨ab, ao + k * 3 + 1, none⟩ = some (.int .i64 s) ∧ W.cell? ⟨ab, ao + k * 3 + 2, none⟩ = some (.int .i64 z)) := fun W hW => by
        obtain ⟨b', o', e, h⟩ := HAR.out W hW
        injection e with e
        injection e with e1 e2
        subst e1
        subst e2
        exact h
      clear HAR
      go_wp2_with fail
      refine wp_region_noPanic ?_
      refine wp_region_held_drew (S := (fun W => W.cell? ⟨ab, ao + k * 3, none⟩ = some (.int .i64 ask) ∧ W.cell? ⟨ab, ao + k * 3 + 1, none⟩ = some (.int .i64 s) ∧ W.cell? ⟨ab, ao + k * 3 + 2, none⟩ = some (.int .i64 z))) (by kernel_rfl) ⟨c0, c1, c2⟩ (fun hHeld => ?_)
      refine wpAnyH_take (i := 0) (v := ?v0) rfl (by kernel_rfl) (by kernel_rfl) (by kernel_rfl) (fun _ _ _ h => h) (Or.inl ⟨by rfl, ?hy0⟩) (by assumption) ?rest0
      case hy0 =>
        intro w hSw
        (try dsimp only at hSw)
        go_simp
        try with_reducible rfl
      try simp only [Act.put, List.getElem_toArray, List.getElem_cons_zero, List.setIfInBounds_toArray, List.set_cons_zero, List.set_cons_succ]
      refine wpAnyH_take (i := 1) (v := ?v1) rfl (by kernel_rfl) (by kernel_rfl) (by kernel_rfl) (fun _ _ _ h => h) (Or.inl ⟨by rfl, ?hy1⟩) (by assumption) ?rest1
      case hy1 =>
        intro w hSw
        (try dsimp only at hSw)
        go_simp
        try with_reducible rfl
      try simp only [Act.put, List.getElem_toArray, List.getElem_cons_zero, List.getElem_cons_succ, List.setIfInBounds_toArray, List.set_cons_zero, List.set_cons_succ]
      refine wpAnyH_take (i := 2) (v := ?v2) rfl (by kernel_rfl) (by kernel_rfl) (by kernel_rfl) (fun _ _ _ h => h) (Or.inl ⟨by rfl, ?hy2⟩) (by assumption) ?rest2
      case hy2 =>
        intro w hSw
        (try dsimp only at hSw)
        go_simp
        try with_reducible rfl
      try simp only [Act.put, List.getElem_toArray, List.getElem_cons_zero, List.getElem_cons_succ, List.setIfInBounds_toArray, List.set_cons_zero, List.set_cons_succ]
      refine wpAnyH_take (i := 3) (v := ?v3) rfl (by kernel_rfl) (by kernel_rfl) (by kernel_rfl) (fun _ _ _ h => h) (Or.inl ⟨by rfl, ?hy3⟩) (by assumption) ?rest3
      case hy3 =>
        intro w hSw
        (try dsimp only at hSw)
        go_simp
        try with_reducible rfl
      try simp only [Act.put, List.getElem_toArray, List.getElem_cons_zero, List.getElem_cons_succ, List.setIfInBounds_toArray, List.set_cons_zero, List.set_cons_succ]
      refine wpAnyH_take (i := 4) (v := ?v4) rfl (by kernel_rfl) (by kernel_rfl) (by kernel_rfl) (fun _ _ _ h => h) (Or.inl ⟨by rfl, ?hy4⟩) (by assumption) ?rest4
      case hy4 =>
        intro w hSw
        (try dsimp only at hSw)
        go_simp
        try with_reducible rfl
      try simp only [Act.put, List.getElem_toArray, List.getElem_cons_zero, List.getElem_cons_succ, List.setIfInBounds_toArray, List.set_cons_zero, List.set_cons_succ]
      refine wpAnyH_take (i := 5) (v := ?v5) rfl (by kernel_rfl) (by kernel_rfl) (by kernel_rfl) (fun _ _ _ h => h) (Or.inl ⟨by rfl, ?hy5⟩) (by assumption) ?rest5
      case hy5 =>
        intro w hSw
        (try dsimp only at hSw)
        go_simp
        try with_reducible rfl
      try simp only [Act.put, List.getElem_toArray, List.getElem_cons_zero, List.getElem_cons_succ, List.setIfInBounds_toArray, List.set_cons_zero, List.set_cons_succ]
      refine wpAnyH_ready (rs := [6]) (by kernel_rfl) (by simp) ?_
      refine AllReadyH.cons rfl (fun K hK => ?_) AllReadyH.nil
      go_simp
      obtain ⟨T1, hT1, hJ1⟩ := HI.out.drew.all
      refine (does_all (n := n) (k := k) (by omega) ask s z HN (Lib.hid hT1)).mono ?_
      rintro e W2 ⟨E, rfl, hE, h2⟩
      have HX2 : Hid (Hv w No [devA d E, refA r E] W2) := hJ1 _ _ h2
      have HNE := Lib.hid hE
      clear h2 hT1 hJ1 c0 c1 c2 hE HI
      refine hK.out _ _ (HARS.out _ HX2.out.below) (fun hHeld2 => ?_)
      clear hK K hHeld hHeld2
      try simp only [Act.put, List.getElem_toArray, List.getElem_cons_zero, List.getElem_cons_succ, List.setIfInBounds_toArray, List.set_cons_zero, List.set_cons_succ]
      obtain ⟨AF, cF, AO, cO, AP, cP, k0, k1, k2, hv⟩ := ref_cells (HX2.out.pick [1, 0])
      have HROW := Lib.hid (hv.row (i := 1) rfl)
      have HR0 := (hv.blk (i := 0) rfl).lt
      obtain ⟨nF, hnF⟩ : ∃ m, m = E.firm.length := ⟨_, rfl⟩
      obtain ⟨nO, hnO⟩ : ∃ m, m = E.opn.length := ⟨_, rfl⟩
      obtain ⟨nP, hnP⟩ : ∃ m, m = E.plan.length := ⟨_, rfl⟩
      have HNF := Lib.hid hnF
      have HNO := Lib.hid hnO
      have HNP := Lib.hid hnP
      rw [← hnF] at k0
      rw [← hnO] at k1
      rw [← hnP] at k2
      have HKQ : Hid (∀ W, Below W2.heap.size W2 W → Below W2.heap.size W2 W ∧ W.cell? ⟨r, 0, none⟩ = some (.slice AF nF cF) ∧ W.cell? ⟨r, 1, none⟩ = some (.slice AO nO cO) ∧ W.cell? ⟨r, 2, none⟩ = some (.slice AP nP cP)) := fun W hW =>
        ⟨hW, (hW.cell (p := ⟨r, 0, none⟩) HR0).trans k0, (hW.cell (p := ⟨r, 1, none⟩) HR0).trans k1, (hW.cell (p := ⟨r, 2, none⟩) HR0).trans k2⟩
      have HB2 : Hid (Below w.heap.size w W2) := HX2.out.below
      have hHeld3 := HKQ.out W2 (Below.refl _ _)
      clear hv hnF hnO hnP k0 k1 k2 HR0
      refine wpAnyH_mono (S' := (fun W => Below W2.heap.size W2 W ∧ W.cell? ⟨r, 0, none⟩ = some (.slice AF nF cF) ∧ W.cell? ⟨r, 1, none⟩ = some (.slice AO nO cO) ∧ W.cell? ⟨r, 2, none⟩ = some (.slice AP nP cP))) (fun W hW => HARS.out W (HB2.out.trans (hW.1.mono HB2.out.size))) _ _ _ _ ?_
      refine wpAnyH_take (i := 7) (v := ?v7) rfl (by kernel_rfl) (by kernel_rfl) (by kernel_rfl) (fun _ _ _ h => h) (Or.inl ⟨by rfl, ?hy7⟩) (by assumption) ?rest7
      case hy7 =>
        intro w hSw
        (try dsimp only at hSw)
        go_simp
        try with_reducible rfl
      try simp only [Act.put, List.getElem_toArray, List.getElem_cons_zero, List.getElem_cons_succ, List.setIfInBounds_toArray, List.set_cons_zero, List.set_cons_succ]
      refine wpAnyH_take (i := 8) (v := ?v8) rfl (by kernel_rfl) (by kernel_rfl) (by kernel_rfl) (fun _ _ _ h => h) (Or.inl ⟨by rfl, ?hy8⟩) (by assumption) ?rest8
      case hy8 =>
        intro w hSw
        (try dsimp only at hSw)
        go_simp
        try with_reducible rfl
      try simp only [Act.put, List.getElem_toArray, List.getElem_cons_zero, List.getElem_cons_succ, List.setIfInBounds_toArray, List.set_cons_zero, List.set_cons_succ]
      refine wpAnyH_take (i := 9) (v := ?v9) rfl (by kernel_rfl) (by kernel_rfl) (by kernel_rfl) (fun _ _ _ h => h) (Or.inl ⟨by rfl, ?hy9⟩) (by assumption) ?rest9
      case hy9 =>
        intro w hSw
        (try dsimp only at hSw)
        go_simp
        try with_reducible rfl
      try simp only [Act.put, List.getElem_toArray, List.getElem_cons_zero, List.getElem_cons_succ, List.setIfInBounds_toArray, List.set_cons_zero, List.set_cons_succ]
      refine wpAnyH_take (i := 11) (v := ?v11) rfl (by kernel_rfl) (by kernel_rfl) (by kernel_rfl) (fun _ _ _ h => h) (Or.inl ⟨by rfl, ?hy11⟩) (by assumption) ?rest11
      case hy11 =>
        intro w hSw
        (try dsimp only at hSw)
        go_simp
        try with_reducible rfl
      try simp only [Act.put, List.getElem_toArray, List.getElem_cons_zero, List.getElem_cons_succ, List.setIfInBounds_toArray, List.set_cons_zero, List.set_cons_succ]
      refine wpAnyH_take (i := 12) (v := ?v12) rfl (by kernel_rfl) (by kernel_rfl) (by kernel_rfl) (fun _ _ _ h => h) (Or.inl ⟨by rfl, ?hy12⟩) (by assumption) ?rest12
      case hy12 =>
        intro w hSw
        (try dsimp only at hSw)
        go_simp
        try with_reducible rfl
      try simp only [Act.put, List.getElem_toArray, List.getElem_cons_zero, List.getElem_cons_succ, List.setIfInBounds_toArray, List.set_cons_zero, List.set_cons_succ]
      refine wpAnyH_take (i := 13) (v := ?v13) rfl (by kernel_rfl) (by kernel_rfl) (by kernel_rfl) (fun _ _ _ h => h) (Or.inl ⟨by rfl, ?hy13⟩) (by assumption) ?rest13
      case hy13 =>
        intro w hSw
        (try dsimp only at hSw)
        go_simp
        try with_reducible rfl
      try simp only [Act.put, List.getElem_toArray, List.getElem_cons_zero, List.getElem_cons_succ, List.setIfInBounds_toArray, List.set_cons_zero, List.set_cons_succ]
      refine wpAnyH_take (i := 14) (v := ?v14) rfl (by kernel_rfl) (by kernel_rfl) (by kernel_rfl) (fun _ _ _ h => h) (Or.inl ⟨by rfl, ?hy14⟩) (by assumption) ?rest14
      case hy14 =>
        intro w hSw
        (try dsimp only at hSw)
        go_simp
        try with_reducible rfl
      try simp only [Act.put, List.getElem_toArray, List.getElem_cons_zero, List.getElem_cons_succ, List.setIfInBounds_toArray, List.set_cons_zero, List.set_cons_succ]
      refine wpAnyH_take (i := 15) (v := ?v15) rfl (by kernel_rfl) (by kernel_rfl) (by kernel_rfl) (fun _ _ _ h => h) (Or.inl ⟨by rfl, ?hy15⟩) (by assumption) ?rest15
      case hy15 =>
        intro w hSw
        (try dsimp only at hSw)
        go_simp
        try with_reducible rfl
      try simp only [Act.put, List.getElem_toArray, List.getElem_cons_zero, List.getElem_cons_succ, List.setIfInBounds_toArray, List.set_cons_zero, List.set_cons_succ]
      refine wpAnyH_ready (rs := [10]) (by kernel_rfl) (by simp) ?_
      refine AllReadyH.cons rfl (fun K hK => ?_) AllReadyH.nil
      go_simp
      obtain ⟨T1, hT1, _⟩ := Hv.use [devA d E] _ HX2.out
      refine (open_any (Lib.hid hT1)).mono ?_
      rintro e W3 ⟨rfl, rfl⟩
      rw [← HNO.out]
      clear hT1
      refine hK.out _ _ hHeld3 (fun hHeld4 => ?_)
      clear hK K hHeld4
      try simp only [Act.put, List.getElem_toArray, List.getElem_cons_zero, List.getElem_cons_succ, List.setIfInBounds_toArray, List.set_cons_zero, List.set_cons_succ]
      refine wpAnyH_take (i := 16) (v := ?v16) rfl (by kernel_rfl) (by kernel_rfl) (by kernel_rfl) (fun _ _ _ h => h) (Or.inl ⟨by rfl, ?hy16⟩) (by assumption) ?rest16
      case hy16 =>
        intro w hSw
        (try dsimp only at hSw)
        go_simp
        try with_reducible rfl
      try simp only [Act.put, List.getElem_toArray, List.getElem_cons_zero, List.getElem_cons_succ, List.setIfInBounds_toArray, List.set_cons_zero, List.set_cons_succ]
      refine wpAnyH_take (i := 17) (v := ?v17) rfl (by kernel_rfl) (by kernel_rfl) (by kernel_rfl) (fun _ _ _ h => h) (Or.inl ⟨by rfl, ?hy17⟩) (by assumption) ?rest17
      case hy17 =>
        intro w hSw
        (try dsimp only at hSw)
        go_simp
        try with_reducible rfl
      try simp only [Act.put, List.getElem_toArray, List.getElem_cons_zero, List.getElem_cons_succ, List.setIfInBounds_toArray, List.set_cons_zero, List.set_cons_succ]
      refine wpAnyH_take (i := 18) (v := ?v18) rfl (by kernel_rfl) (by kernel_rfl) (by kernel_rfl) (fun _ _ _ h => h) (Or.inl ⟨by rfl, ?hy18⟩) (by assumption) ?rest18
      case hy18 =>
        intro w hSw
        (try dsimp only at hSw)
        go_simp
        try with_reducible rfl
      try simp only [Act.put, List.getElem_toArray, List.getElem_cons_zero, List.getElem_cons_succ, List.setIfInBounds_toArray, List.set_cons_zero, List.set_cons_succ]
      refine wpAnyH_take (i := 19) (v := ?v19) rfl (by kernel_rfl) (by kernel_rfl) (by kernel_rfl) (fun _ _ _ h => h) (Or.inl ⟨by rfl, ?hy19⟩) (by assumption) ?rest19
      case hy19 =>
        intro w hSw
        (try dsimp only at hSw)
        go_simp
        try with_reducible rfl
      try simp only [Act.put, List.getElem_toArray, List.getElem_cons_zero, List.getElem_cons_succ, List.setIfInBounds_toArray, List.set_cons_zero, List.set_cons_succ]
      refine wpAnyH_take (i := 21) (v := ?v21) rfl (by kernel_rfl) (by kernel_rfl) (by kernel_rfl) (fun _ _ _ h => h) (Or.inl ⟨by rfl, ?hy21⟩) (by assumption) ?rest21
      case hy21 =>
        intro w hSw
        (try dsimp only at hSw)
        go_simp
        try with_reducible rfl
      try simp only [Act.put, List.getElem_toArray, List.getElem_cons_zero, List.getElem_cons_succ, List.setIfInBounds_toArray, List.set_cons_zero, List.set_cons_succ]
      refine wpAnyH_take (i := 22) (v := ?v22) rfl (by kernel_rfl) (by kernel_rfl) (by kernel_rfl) (fun _ _ _ h => h) (Or.inl ⟨by rfl, ?hy22⟩) (by assumption) ?rest22
      case hy22 =>
        intro w hSw
        (try dsimp only at hSw)
        go_simp
        try with_reducible rfl
      try simp only [Act.put, List.getElem_toArray, List.getElem_cons_zero, List.getElem_cons_succ, List.setIfInBounds_toArray, List.set_cons_zero, List.set_cons_succ]
      refine wpAnyH_take (i := 23) (v := ?v23) rfl (by kernel_rfl) (by kernel_rfl) (by kernel_rfl) (fun _ _ _ h => h) (Or.inl ⟨by rfl, ?hy23⟩) (by assumption) ?rest23
      case hy23 =>
        intro w hSw
        (try dsimp only at hSw)
        go_simp
        try with_reducible rfl
      try simp only [Act.put, List.getElem_toArray, List.getElem_cons_zero, List.getElem_cons_succ, List.setIfInBounds_toArray, List.set_cons_zero, List.set_cons_succ]
      refine wpAnyH_take (i := 24) (v := ?v24) rfl (by kernel_rfl) (by kernel_rfl) (by kernel_rfl) (fun _ _ _ h => h) (Or.inl ⟨by rfl, ?hy24⟩) (by assumption) ?rest24
      case hy24 =>
        intro w hSw
        (try dsimp only at hSw)
        go_simp
        try with_reducible rfl
      try simp only [Act.put, List.getElem_toArray, List.getElem_cons_zero, List.getElem_cons_succ, List.setIfInBounds_toArray, List.set_cons_zero, List.set_cons_succ]
      refine wpAnyH_take (i := 25) (v := ?v25) rfl (by kernel_rfl) (by kernel_rfl) (by kernel_rfl) (fun _ _ _ h => h) (Or.inl ⟨by rfl, ?hy25⟩) (by assumption) ?rest25
      case hy25 =>
        intro w hSw
        (try dsimp only at hSw)
        go_simp
        try with_reducible rfl
      try simp only [Act.put, List.getElem_toArray, List.getElem_cons_zero, List.getElem_cons_succ, List.setIfInBounds_toArray, List.set_cons_zero, List.set_cons_succ]
      refine wpAnyH_ready (rs := [20]) (by kernel_rfl) (by simp) ?_
      refine AllReadyH.cons rfl (fun K hK => ?_) AllReadyH.nil
      go_simp
      obtain ⟨T1, hT1, _⟩ := Hv.use [devA d E] _ HX2.out
      refine (planned_any (Lib.hid hT1)).mono ?_
      rintro e W4 ⟨rfl, rfl⟩
      rw [← HNP.out]
      clear hT1
      refine hK.out _ _ hHeld3 (fun hHeld4 => ?_)
      clear hK K hHeld4
      try simp only [Act.put, List.getElem_toArray, List.getElem_cons_zero, List.getElem_cons_succ, List.setIfInBounds_toArray, List.set_cons_zero, List.set_cons_succ]
      refine wpAnyH_take (i := 26) (v := ?v26) rfl (by kernel_rfl) (by kernel_rfl) (by kernel_rfl) (fun _ _ _ h => h) (Or.inl ⟨by rfl, ?hy26⟩) (by assumption) ?rest26
      case hy26 =>
        intro w hSw
        (try dsimp only at hSw)
        go_simp
        try with_reducible rfl
      try simp only [Act.put, List.getElem_toArray, List.getElem_cons_zero, List.getElem_cons_succ, List.setIfInBounds_toArray, List.set_cons_zero, List.set_cons_succ]
      refine wpAnyH_take (i := 27) (v := ?v27) rfl (by kernel_rfl) (by kernel_rfl) (by kernel_rfl) (fun _ _ _ h => h) (Or.inl ⟨by rfl, ?hy27⟩) (by assumption) ?rest27
      case hy27 =>
        intro w hSw
        (try dsimp only at hSw)
        go_simp
        try with_reducible rfl
      try simp only [Act.put, List.getElem_toArray, List.getElem_cons_zero, List.getElem_cons_succ, List.setIfInBounds_toArray, List.set_cons_zero, List.set_cons_succ]
      refine wpAnyH_take (i := 28) (v := ?v28) rfl (by kernel_rfl) (by kernel_rfl) (by kernel_rfl) (fun _ _ _ h => h) (Or.inl ⟨by rfl, ?hy28⟩) (by assumption) ?rest28
      case hy28 =>
        intro w hSw
        (try dsimp only at hSw)
        go_simp
        try with_reducible rfl
      try simp only [Act.put, List.getElem_toArray, List.getElem_cons_zero, List.getElem_cons_succ, List.setIfInBounds_toArray, List.set_cons_zero, List.set_cons_succ]
      refine wpAnyH_take (i := 29) (v := ?v29) rfl (by kernel_rfl) (by kernel_rfl) (by kernel_rfl) (fun _ _ _ h => h) (Or.inl ⟨by rfl, ?hy29⟩) (by assumption) ?rest29
      case hy29 =>
        intro w hSw
        (try dsimp only at hSw)
        go_simp
        try with_reducible rfl
      try simp only [Act.put, List.getElem_toArray, List.getElem_cons_zero, List.getElem_cons_succ, List.setIfInBounds_toArray, List.set_cons_zero, List.set_cons_succ]
      refine wpAnyH_take (i := 30) (v := ?v30) rfl (by kernel_rfl) (by kernel_rfl) (by kernel_rfl) (fun _ _ _ h => h) (Or.inl ⟨by rfl, ?hy30⟩) (by assumption) ?rest30
      case hy30 =>
        intro w hSw
        (try dsimp only at hSw)
        go_simp
        try with_reducible rfl
      try simp only [Act.put, List.getElem_toArray, List.getElem_cons_zero, List.getElem_cons_succ, List.setIfInBounds_toArray, List.set_cons_zero, List.set_cons_succ]
      refine wpAnyH_take (i := 31) (v := ?v31) rfl (by kernel_rfl) (by kernel_rfl) (by kernel_rfl) (fun _ _ _ h => h) (Or.inl ⟨by rfl, ?hy31⟩) (by assumption) ?rest31
      case hy31 =>
        intro w hSw
        (try dsimp only at hSw)
        go_simp
        try with_reducible rfl
      try simp only [Act.put, List.getElem_toArray, List.getElem_cons_zero, List.getElem_cons_succ, List.setIfInBounds_toArray, List.set_cons_zero, List.set_cons_succ]
      refine wpAnyH_take (i := 32) (v := ?v32) rfl (by kernel_rfl) (by kernel_rfl) (by kernel_rfl) (fun _ _ _ h => h) (Or.inl ⟨by rfl, ?hy32⟩) (by assumption) ?rest32
      case hy32 =>
        intro w hSw
        (try dsimp only at hSw)
        go_simp
        try with_reducible rfl
      try simp only [Act.put, List.getElem_toArray, List.getElem_cons_zero, List.getElem_cons_succ, List.setIfInBounds_toArray, List.set_cons_zero, List.set_cons_succ]
      refine wpAnyH_take (i := 33) (v := ?v33) rfl (by kernel_rfl) (by kernel_rfl) (by kernel_rfl) (fun _ _ _ h => h) (Or.inl ⟨by rfl, ?hy33⟩) (by assumption) ?rest33
      case hy33 =>
        intro w hSw
        (try dsimp only at hSw)
        go_simp
        try with_reducible rfl
      try simp only [Act.put, List.getElem_toArray, List.getElem_cons_zero, List.getElem_cons_succ, List.setIfInBounds_toArray, List.set_cons_zero, List.set_cons_succ]
      refine wpAnyH_ready (rs := [34]) (by kernel_rfl) (by simp) ?_
      refine AllReadyH.cons rfl (fun K hK => ?_) AllReadyH.nil
      go_simp
      obtain ⟨T1, hT1, _⟩ := Hv.use [devA d E] _ HX2.out
      refine (firmlaw_any (D := E) (Lib.hid (by rw [HNF.out]; exact HROW.out)) (Lib.hid HNE.out.okb) (Lib.hid (by have := HNE.out.flen; omega)) (Lib.hid hT1)).mono ?_
      rintro e W5 ⟨rfl, hb⟩
      have HX5 := Lib.hid (HX2.out.still hb)
      refine hK.out _ _ (HKQ.out _ hb) (fun hHeld4 => ?_)
      clear hK K hb hT1 hHeld3 HX2
      try simp only [Act.put, List.getElem_toArray, List.getElem_cons_zero, List.getElem_cons_succ, List.setIfInBounds_toArray, List.set_cons_zero, List.set_cons_succ]
      refine wpAnyH_take (i := 35) (v := ?v35) rfl (by kernel_rfl) (by kernel_rfl) (by kernel_rfl) (fun _ _ _ h => h) (Or.inl ⟨by rfl, ?hy35⟩) (by assumption) ?rest35
      case hy35 =>
        intro w hSw
        (try dsimp only at hSw)
        go_simp
        try with_reducible rfl
      try simp only [Act.put, List.getElem_toArray, List.getElem_cons_zero, List.getElem_cons_succ, List.setIfInBounds_toArray, List.set_cons_zero, List.set_cons_succ]
      refine wpAnyH_take (i := 36) (v := ?v36) rfl (by kernel_rfl) (by kernel_rfl) (by kernel_rfl) (fun _ _ _ h => h) (Or.inl ⟨by rfl, ?hy36⟩) (by assumption) ?rest36
      case hy36 =>
        intro w hSw
        (try dsimp only at hSw)
        go_simp
        try with_reducible rfl
      try simp only [Act.put, List.getElem_toArray, List.getElem_cons_zero, List.getElem_cons_succ, List.setIfInBounds_toArray, List.set_cons_zero, List.set_cons_succ]
      refine wpAnyH_done (by kernel_rfl) ?_ _
      refine NoPanic.normal ?_
      clear HKQ HARS HB2 hHeld4
      go_wp2
      go_roundw
      case rel => exact ⟨k + 1, by omega, rfl, _, HNE.out, HX5.out⟩
      case measure => simp [intOf]; omega
    · obtain rfl : k = L := by omega
      clear hkl hk hA HL
      have hlb := laid_bl
      have hz := zero34
      have hml := markC_length
      have HT1 : Hid (¬ there D (n : Int) = true) := by
        show ¬ _
        unfold there
        rw [HN.out.flen, decide_eq_false (p := (n : Int) < (n : Int)) (by omega), Bool.and_false]
        simp
      have HT2 : Hid (¬ there D (-1) = true) := by
        show ¬ _
        unfold there
        simp
      have HF1 : Hid (firmAt D (n : Int) = 0) := by show _ = _; unfold firmAt; rw [if_neg HT1.out]
      have HF2 : Hid (firmAt D (-1) = 0) := by show _ = _; unfold firmAt; rw [if_neg HT2.out]
      go_wp2_with fail
      obtain ⟨T, hT, _⟩ := Hv.use [devA d D] _ HI.out
      refine (firm_no (n : Int) HT1 (Lib.hid hT)).mono ?_
      rintro e w3 ⟨rfl, h3⟩
      rw [HF1.out]
      have HV3 := Lib.hid ((HI.out.still h3).alloc_ (.cells (markC 0).toArray 34))
      clear h3 hT HI
      go_wp2_with fail
      obtain ⟨W3, hW3⟩ : ∃ y, y = w3.alloc (.cells (markC 0).toArray 34) := ⟨_, rfl⟩
      rw [← hW3] at HV3
      rw [← hW3]
      clear hW3
      obtain ⟨T, hT, _⟩ := Hv.use [devA d D] _ HV3.out
      refine (firm_no (-1) HT2 (Lib.hid hT)).mono ?_
      rintro e w4 ⟨rfl, h3⟩
      rw [HF2.out]
      have HV4 := Lib.hid ((HV3.out.still h3).alloc_ (.cells (markC 0).toArray 34))
      clear h3 hT HV3
      go_wp2_with fail
      refine (awake_any _).mono ?_
      rintro e w30 ⟨rfl, hb⟩
      have HB := Lib.hid (HV4.out.still hb).below
      clear hb
      go_wp2
      go_ret
      exact ⟨rfl, HB.out⟩
end Go.Proofs.Ytbfmgdkiigkioaa

/- The walk of DevLoses. -/
import Derived.Test.YtbfmgdkiigkioaaLosesP
import Derived.Test.YtbfmgdkiigkioaaFlushesP
namespace Go.Proofs.Ytbfmgdkiigkioaa
open Go.RowKit Go.LawEnd

set_option maxRecDepth 100000 in
set_option maxHeartbeats 6400000 in
theorem loses_bad (A : Option Addr) (c : Nat) (m : Int) (l : List Cl) (vK : Value) (w : World) (hbad : Hid (¬ (1 ≤ m ∧ m ≤ 40 ∧ l.length ≤ 80))) :
    Calls Try.prog 3 #[.int .i64 m, .slice A l.length c, vK] w (Yes w) := by
  obtain ⟨L, hL⟩ : ∃ L, L = l.length := ⟨_, rfl⟩
  rw [← hL] at hbad ⊢
  clear hL
  have hb0 := hbad.out
  have HV : Hid (Hv w No [] w) := Hv.begin w
  by_cases h1 : m < 1
  · have d1 : decide (m < 1) = true := decide_eq_true h1
    clear hb0 hbad
    go_enter Try.func3, Try.ntmps3
    go_wp2_with fail
    refine (awake_any _).mono ?_
    rintro e w30 ⟨rfl, hb⟩
    have HB := Lib.hid (HV.out.still hb).below
    clear hb
    go_wp2
    go_ret
    exact ⟨rfl, HB.out⟩
  · have d1 : decide (m < 1) = false := decide_eq_false h1
    by_cases h2 : 40 < m
    · have d2 : decide (40 < m) = true := decide_eq_true h2
      clear hb0 hbad
      go_enter Try.func3, Try.ntmps3
      go_wp2_with fail
      refine (awake_any _).mono ?_
      rintro e w30 ⟨rfl, hb⟩
      have HB := Lib.hid (HV.out.still hb).below
      clear hb
      go_wp2
      go_ret
      exact ⟨rfl, HB.out⟩
    · have d2 : decide (40 < m) = false := decide_eq_false h2
      have d3 : decide ((L : Int) ≤ 80) = false := decide_eq_false (by omega)
      clear hb0 hbad
      go_enter Try.func3, Try.ntmps3
      go_wp2_with fail
      refine (few_any _ _ _ _).mono ?_
      rintro e w2 ⟨rfl, rfl⟩
      rw [d3]
      go_wp2_with fail
      refine (awake_any _).mono ?_
      rintro e w30 ⟨rfl, hb⟩
      have HB := Lib.hid (HV.out.still hb).below
      clear hb
      go_wp2
      go_ret
      exact ⟨rfl, HB.out⟩
set_option maxRecDepth 100000 in
set_option maxHeartbeats 6400000 in
theorem loses_good (A : Option Addr) (c n : Nat) (l : List Cl) (vK : Value) (ks : List Bool) (w : World) (hK : Hid (RowB w vK ks)) (hg : Hid (1 ≤ n ∧ n ≤ 40 ∧ l.length ≤ 80)) (hA : Hid (ClArg w A l)) :
    Calls Try.prog 3 #[.int .i64 (n : Int), .slice A l.length c, vK] w (Yes w) := by
  obtain ⟨AK, cK, rfl, _⟩ := hK.out
  obtain ⟨L, hL⟩ : ∃ L, L = l.length := ⟨_, rfl⟩
  obtain ⟨LK, hLK⟩ : ∃ L, L = ks.length := ⟨_, rfl⟩
  have HL := Lib.hid hL
  have HLK := Lib.hid hLK
  rw [← hL] at hg
  rw [← hLK] at hK
  rw [← hL, ← hLK]
  clear hL hLK
  obtain ⟨g1, g2, g3⟩ := hg.out
  have d1 : decide ((n : Int) < 1) = false := decide_eq_false (by omega)
  have d2 : decide (40 < (n : Int)) = false := decide_eq_false (by omega)
  have d3 : decide ((L : Int) ≤ 80) = true := decide_eq_true (by omega)
  go_enter Try.func3, Try.ntmps3
  go_wp2_with fail
  refine (few_any _ _ _ _).mono ?_
  rintro e w2 ⟨rfl, rfl⟩
  rw [d3]
  go_wp2_with fail
  refine (new_yes n _ g1 (by omega)).mono ?_
  rintro e w1 ⟨d, rfl, h1⟩
  have H0 : Hid (Hv w No [opA (.slice none 0 0) [], devA d (D0 n)] w1) := h1.nilRow 31 3
  clear h1
  go_wp2_with fail
  go_loopw [9, 10] (fun o i wr => ∃ (k : Nat) (D : Dv) (O : List Cl), k ≤ L ∧ i = .int .i64 k ∧ Hid (Inv n k D) ∧ Hid (D.opn = O.map toW) ∧ slen o = O.length ∧ Hid (Hv w No [opA o O, devA d D] wr)) (fun _ i _ => L - (intOf i).toNat)
  case atStart => exact ⟨0, D0 n, [], by omega, rfl, inv_new n, rfl, rfl, H0.out⟩
  case round =>
    clear H0
    obtain ⟨k, D, O, hk, rfl, HN, HO, hsl, HI⟩ := hrel
    obtain ⟨AO, cO, rfl⟩ := row_form (HI.out.row (i := 0) rfl)
    obtain ⟨nO, hnO⟩ : ∃ m, m = O.length := ⟨_, rfl⟩
    have HNO := Lib.hid hnO
    have HOL : Hid (O.length = D.opn.length) := by show _ = _; rw [HO.out, List.length_map]
    have hnb : nO ≤ k := by have := HN.out.olen; have := HOL.out; omega
    have HX : Hid (Hv w No [opA (.slice AO nO cO) O, devA d D] wr) := by rw [hnO]; exact HI.out
    rw [← hnO] at hsl ⊢
    clear hnO HI hsl
    by_cases hkl : k < L
    · have hkl' : k < l.length := by rw [← HL.out]; exact hkl
      have HAR : Hid (∀ W, Below w.heap.size w W → ∃ b off, A = some ⟨b, off, none⟩ ∧ W.cell? ⟨b, off + k * 3, none⟩ = some (.int .i64 l[k].1) ∧ W.cell? ⟨b, off + k * 3 + 1, none⟩ = some (.int .i64 l[k].2.1) ∧ W.cell? ⟨b, off + k * 3 + 2, none⟩ = some (.int .i64 l[k].2.2)) := fun W hW => by
        obtain ⟨b, off, e, _, h⟩ := hA.out.below hW k hkl'
        exact ⟨b, off, e, h⟩
      obtain ⟨y, hy⟩ : ∃ y, y = l[k] := ⟨_, rfl⟩
      rw [← hy] at HAR
      clear hy hkl'
      obtain ⟨ask, s, z⟩ := y
      obtain ⟨ab, ao, rfl, c0, c1, c2⟩ := HAR.out wr HX.out.below
      have HARS : Hid (∀ W, Below w.heap.size w W → W.cell? ⟨ab, ao + k * 3, none⟩ = some (.int .i64 ask) ∧ W.cell? ⟨ab, ao + k * 3 + 1, none⟩ = some (.int .i64 s) ∧ W.cell? ⟨ab, ao + k * 3 + 2, none⟩ = some (.int .i64 z)) := fun W hW => by
        obtain ⟨b', o', e, h⟩ := HAR.out W hW
        injection e with e
        injection e with e1 e2
        subst e1
        subst e2
        exact h
      clear HAR
      by_cases ha0 : ask = 0
      · subst ha0
        go_wp2_with fail
        refine wp_region_noPanic ?_
        refine wp_region_held_drew (S := (fun W => W.cell? ⟨ab, ao + k * 3, none⟩ = some (.int .i64 0) ∧ W.cell? ⟨ab, ao + k * 3 + 1, none⟩ = some (.int .i64 s) ∧ W.cell? ⟨ab, ao + k * 3 + 2, none⟩ = some (.int .i64 z))) (by kernel_rfl) ⟨c0, c1, c2⟩ (fun hHeld => ?_)
        refine wpAnyH_take (i := 0) (v := ?v0) rfl (by kernel_rfl) (by kernel_rfl) (by kernel_rfl) (fun _ _ _ h => h) (Or.inl ⟨by rfl, ?hy0⟩) (by assumption) ?rest0
        case hy0 =>
          intro w hSw
          (try dsimp only at hSw)
          go_simp
          try with_reducible rfl
        try simp only [Act.put, List.getElem_toArray, List.getElem_cons_zero, List.setIfInBounds_toArray, List.set_cons_zero, List.set_cons_succ]
        refine wpAnyH_take (i := 1) (v := ?v1) rfl (by kernel_rfl) (by kernel_rfl) (by kernel_rfl) (fun _ _ _ h => h) (Or.inl ⟨by rfl, ?hy1⟩) (by assumption) ?rest1
        case hy1 =>
          intro w hSw
          (try dsimp only at hSw)
          go_simp
          try with_reducible rfl
        try simp only [Act.put, List.getElem_toArray, List.getElem_cons_zero, List.getElem_cons_succ, List.setIfInBounds_toArray, List.set_cons_zero, List.set_cons_succ]
        refine wpAnyH_take (i := 2) (v := ?v2) rfl (by kernel_rfl) (by kernel_rfl) (by kernel_rfl) (fun _ _ _ h => h) (Or.inl ⟨by rfl, ?hy2⟩) (by assumption) ?rest2
        case hy2 =>
          intro w hSw
          (try dsimp only at hSw)
          go_simp
          try with_reducible rfl
        try simp only [Act.put, List.getElem_toArray, List.getElem_cons_zero, List.getElem_cons_succ, List.setIfInBounds_toArray, List.set_cons_zero, List.set_cons_succ]
        refine wpAnyH_take (i := 3) (v := ?v3) rfl (by kernel_rfl) (by kernel_rfl) (by kernel_rfl) (fun _ _ _ h => h) (Or.inl ⟨by rfl, ?hy3⟩) (by assumption) ?rest3
        case hy3 =>
          intro w hSw
          (try dsimp only at hSw)
          go_simp
          try with_reducible rfl
        try simp only [Act.put, List.getElem_toArray, List.getElem_cons_zero, List.getElem_cons_succ, List.setIfInBounds_toArray, List.set_cons_zero, List.set_cons_succ]
        refine wpAnyH_take (i := 4) (v := ?v4) rfl (by kernel_rfl) (by kernel_rfl) (by kernel_rfl) (fun _ _ _ h => h) (Or.inl ⟨by rfl, ?hy4⟩) (by assumption) ?rest4
        case hy4 =>
          intro w hSw
          (try dsimp only at hSw)
          go_simp
          try with_reducible rfl
        try simp only [Act.put, List.getElem_toArray, List.getElem_cons_zero, List.getElem_cons_succ, List.setIfInBounds_toArray, List.set_cons_zero, List.set_cons_succ]
        refine wpAnyH_take (i := 5) (v := ?v5) rfl (by kernel_rfl) (by kernel_rfl) (by kernel_rfl) (fun _ _ _ h => h) (Or.inl ⟨by rfl, ?hy5⟩) (by assumption) ?rest5
        case hy5 =>
          intro w hSw
          (try dsimp only at hSw)
          go_simp
          try with_reducible rfl
        try simp only [Act.put, List.getElem_toArray, List.getElem_cons_zero, List.getElem_cons_succ, List.setIfInBounds_toArray, List.set_cons_zero, List.set_cons_succ]
        refine wpAnyH_take (i := 6) (v := ?v6) rfl (by kernel_rfl) (by kernel_rfl) (by kernel_rfl) (fun _ _ _ h => h) (Or.inl ⟨by rfl, ?hy6⟩) (by assumption) ?rest6
        case hy6 =>
          intro w hSw
          (try dsimp only at hSw)
          go_simp
          try with_reducible rfl
        try simp only [Act.put, List.getElem_toArray, List.getElem_cons_zero, List.getElem_cons_succ, List.setIfInBounds_toArray, List.set_cons_zero, List.set_cons_succ]
        refine wpAnyH_take (i := 7) (v := ?v7) rfl (by kernel_rfl) (by kernel_rfl) (by kernel_rfl) (fun _ _ _ h => h) (Or.inl ⟨by rfl, ?hy7⟩) (by assumption) ?rest7
        case hy7 =>
          intro w hSw
          (try dsimp only at hSw)
          go_simp
          try with_reducible rfl
        try simp only [Act.put, List.getElem_toArray, List.getElem_cons_zero, List.getElem_cons_succ, List.setIfInBounds_toArray, List.set_cons_zero, List.set_cons_succ]
        refine wpAnyH_take (i := 8) (v := ?v8) rfl (by kernel_rfl) (by kernel_rfl) (by kernel_rfl) (fun _ _ _ h => h) (Or.inl ⟨by rfl, ?hy8⟩) (by assumption) ?rest8
        case hy8 =>
          intro w hSw
          (try dsimp only at hSw)
          go_simp
          try with_reducible rfl
        try simp only [Act.put, List.getElem_toArray, List.getElem_cons_zero, List.getElem_cons_succ, List.setIfInBounds_toArray, List.set_cons_zero, List.set_cons_succ]
        refine wpAnyH_take (i := 9) (v := ?v9) rfl (by kernel_rfl) (by kernel_rfl) (by kernel_rfl) (fun _ _ _ h => h) (Or.inl ⟨by rfl, ?hy9⟩) (by assumption) ?rest9
        case hy9 =>
          intro w hSw
          (try dsimp only at hSw)
          go_simp
          try with_reducible rfl
        try simp only [Act.put, List.getElem_toArray, List.getElem_cons_zero, List.getElem_cons_succ, List.setIfInBounds_toArray, List.set_cons_zero, List.set_cons_succ]
        refine wpAnyH_take (i := 10) (v := ?v10) rfl (by kernel_rfl) (by kernel_rfl) (by kernel_rfl) (fun _ _ _ h => h) (Or.inl ⟨by rfl, ?hy10⟩) (by assumption) ?rest10
        case hy10 =>
          intro w hSw
          (try dsimp only at hSw)
          go_simp
          try with_reducible rfl
        try simp only [Act.put, List.getElem_toArray, List.getElem_cons_zero, List.getElem_cons_succ, List.setIfInBounds_toArray, List.set_cons_zero, List.set_cons_succ]
        refine wpAnyH_take (i := 11) (v := ?v11) rfl (by kernel_rfl) (by kernel_rfl) (by kernel_rfl) (fun _ _ _ h => h) (Or.inl ⟨by rfl, ?hy11⟩) (by assumption) ?rest11
        case hy11 =>
          intro w hSw
          (try dsimp only at hSw)
          go_simp
          try with_reducible rfl
        try simp only [Act.put, List.getElem_toArray, List.getElem_cons_zero, List.getElem_cons_succ, List.setIfInBounds_toArray, List.set_cons_zero, List.set_cons_succ]
        refine wpAnyH_take (i := 12) (v := ?v12) rfl (by kernel_rfl) (by kernel_rfl) (by kernel_rfl) (fun _ _ _ h => h) (Or.inl ⟨by rfl, ?hy12⟩) (by assumption) ?rest12
        case hy12 =>
          intro w hSw
          (try dsimp only at hSw)
          go_simp
          try with_reducible rfl
        try simp only [Act.put, List.getElem_toArray, List.getElem_cons_zero, List.getElem_cons_succ, List.setIfInBounds_toArray, List.set_cons_zero, List.set_cons_succ]
        refine wpAnyH_take (i := 13) (v := ?v13) rfl (by kernel_rfl) (by kernel_rfl) (by kernel_rfl) (fun _ _ _ h => h) (Or.inl ⟨by rfl, ?hy13⟩) (by assumption) ?rest13
        case hy13 =>
          intro w hSw
          (try dsimp only at hSw)
          go_simp
          try with_reducible rfl
        try simp only [Act.put, List.getElem_toArray, List.getElem_cons_zero, List.getElem_cons_succ, List.setIfInBounds_toArray, List.set_cons_zero, List.set_cons_succ]
        refine wpAnyH_take (i := 14) (v := ?v14) rfl (by kernel_rfl) (by kernel_rfl) (by kernel_rfl) (fun _ _ _ h => h) (Or.inl ⟨by rfl, ?hy14⟩) (by assumption) ?rest14
        case hy14 =>
          intro w hSw
          (try dsimp only at hSw)
          go_simp
          try with_reducible rfl
        try simp only [Act.put, List.getElem_toArray, List.getElem_cons_zero, List.getElem_cons_succ, List.setIfInBounds_toArray, List.set_cons_zero, List.set_cons_succ]
        refine wpAnyH_take (i := 15) (v := ?v15) rfl (by kernel_rfl) (by kernel_rfl) (by kernel_rfl) (fun _ _ _ h => h) (Or.inl ⟨by rfl, ?hy15⟩) (by assumption) ?rest15
        case hy15 =>
          intro w hSw
          (try dsimp only at hSw)
          go_simp
          try with_reducible rfl
        try simp only [Act.put, List.getElem_toArray, List.getElem_cons_zero, List.getElem_cons_succ, List.setIfInBounds_toArray, List.set_cons_zero, List.set_cons_succ]
        refine wpAnyH_take (i := 16) (v := ?v16) rfl (by kernel_rfl) (by kernel_rfl) (by kernel_rfl) (fun _ _ _ h => h) (Or.inl ⟨by rfl, ?hy16⟩) (by assumption) ?rest16
        case hy16 =>
          intro w hSw
          (try dsimp only at hSw)
          go_simp
          try with_reducible rfl
        try simp only [Act.put, List.getElem_toArray, List.getElem_cons_zero, List.getElem_cons_succ, List.setIfInBounds_toArray, List.set_cons_zero, List.set_cons_succ]
        refine wpAnyH_take (i := 17) (v := ?v17) rfl (by kernel_rfl) (by kernel_rfl) (by kernel_rfl) (fun _ _ _ h => h) (Or.inl ⟨by rfl, ?hy17⟩) (by assumption) ?rest17
        case hy17 =>
          intro w hSw
          (try dsimp only at hSw)
          go_simp
          try with_reducible rfl
        try simp only [Act.put, List.getElem_toArray, List.getElem_cons_zero, List.getElem_cons_succ, List.setIfInBounds_toArray, List.set_cons_zero, List.set_cons_succ]
        refine wpAnyH_ready (rs := [18]) (by kernel_rfl) (by simp) ?_
        refine AllReadyH.cons rfl (fun K hK => ?_) AllReadyH.nil
        go_simp
        refine (mark_any z _).mono ?_
        rintro e W1 ⟨rfl, hb⟩
        have HX1 : Hid (Hv w No [devA d D, opA (.slice AO nO cO) O] W1) := (HX.out.drew.still hb).pick [1, 0]
        clear hb HX c0 c1 c2
        refine hK.out _ _ (HARS.out _ HX1.out.below) (fun hHeld1 => ?_)
        clear hK K
        try simp only [Act.put, List.getElem_toArray, List.getElem_cons_zero, List.getElem_cons_succ, List.setIfInBounds_toArray, List.set_cons_zero, List.set_cons_succ]
        refine wpAnyH_ready (rs := [19]) (by kernel_rfl) (by simp) ?_
        refine AllReadyH.cons rfl (fun K hK => ?_) AllReadyH.nil
        go_simp
        obtain ⟨T, hT, hJ⟩ := Hv.use [devA d D] _ HX1.out
        refine (write_any s (z % 256) (Lib.hid (by have := HN.out.olen; omega)) (Lib.hid hT)).mono ?_
        rintro e W2 ⟨rfl, h2⟩
        rw [HN.out.writeF] at h2
        by_cases hth : there D s = true
        · have HWF : Hid ((writeF D s (z % 256)).1 = 0) := by show _ = _; rw [HN.out.writeF, if_pos hth]
          rw [if_pos hth] at h2
          rw [HWF.out]
          obtain ⟨D1, hD1⟩ : ∃ y, y = addD D (s, z % 256) := ⟨_, rfl⟩
          have HN1 : Hid (Inv n (k + 1) D1) := by show Inv _ _ _; rw [hD1]; exact HN.out.add hth (by omega)
          have HO1 : Hid (D1.opn = (O ++ [((0 : Int), s, z)]).map toW) := by show _ = _; rw [hD1, List.map_append, ← HO.out]; rfl
          have HX2 : Hid (Hv w No [opA (.slice AO nO cO) O, devA d D1] W2) := by
            have := (hJ _ _ h2).pick [1, 0]
            rw [hD1]
            exact this
          clear h2 hT hJ HX1 hD1 hth HWF
          refine hK.out _ _ (HARS.out _ HX2.out.below) (fun hHeld2 => ?_)
          clear hK K
          try simp only [Act.put, List.getElem_toArray, List.getElem_cons_zero, List.getElem_cons_succ, List.setIfInBounds_toArray, List.set_cons_zero, List.set_cons_succ]
          refine wpAnyH_take (i := 20) (v := ?va20) rfl (by kernel_rfl) (by kernel_rfl) (by kernel_rfl) (fun _ _ _ h => h) (Or.inl ⟨by rfl, ?hya20⟩) (by assumption) ?resta20
          case hya20 =>
            intro w hSw
            (try dsimp only at hSw)
            go_simp
            try with_reducible rfl
          try simp only [Act.put, List.getElem_toArray, List.getElem_cons_zero, List.getElem_cons_succ, List.setIfInBounds_toArray, List.set_cons_zero, List.set_cons_succ]
          refine wpAnyH_take (i := 21) (v := ?va21) rfl (by kernel_rfl) (by kernel_rfl) (by kernel_rfl) (fun _ _ _ h => h) (Or.inl ⟨by rfl, ?hya21⟩) (by assumption) ?resta21
          case hya21 =>
            intro w hSw
            (try dsimp only at hSw)
            go_simp
            try with_reducible rfl
          try simp only [Act.put, List.getElem_toArray, List.getElem_cons_zero, List.getElem_cons_succ, List.setIfInBounds_toArray, List.set_cons_zero, List.set_cons_succ]
          refine wpAnyH_done (by kernel_rfl) ?_ _
          refine NoPanic.normal ?_
          clear hHeld hHeld1 hHeld2
          obtain ⟨c0, c1, c2⟩ := HARS.out W2 HX2.out.below
          have hX3 := HX2.out
          rw [HNO.out] at hX3
          obtain ⟨g, cap, W4, hE, hH⟩ := app_op hX3 (by have := HNO.out; omega) ((0 : Int), s, z)
          rw [← HNO.out] at hE
          have HE := Lib.hid hE
          have HX4 : Hid (Hv w No [opA (.slice (some ⟨g, 0, none⟩) (nO + 1) cap) (O ++ [((0 : Int), s, z)]), devA d D1] W4) := by rw [HNO.out]; exact hH
          have HLN : Hid (nO + 1 = (O ++ [((0 : Int), s, z)]).length) := by show _ = _; rw [HNO.out]; simp
          obtain ⟨c3, c4, c5⟩ := HARS.out W4 HX4.out.below
          clear hX3 hE hH
          go_wp2_with (at_builtin; refine wpList_append_run rfl (.tmp 77) (.tmp 82) _ rfl HE.out ?_)
          go_roundw
          case rel => exact ⟨k + 1, D1, O ++ [((0 : Int), s, z)], by omega, rfl, HN1, HO1, HLN.out, HX4⟩
          case measure => simp [intOf]; omega
        · have HWF : Hid ((writeF D s (z % 256)).1 = 10) := by show _ = _; rw [HN.out.writeF, if_neg hth]
          rw [if_neg hth] at h2
          rw [HWF.out]
          have HX2 : Hid (Hv w No [opA (.slice AO nO cO) O, devA d D] W2) := (hJ _ _ h2).pick [1, 0]
          clear h2 hT hJ HX1 hth HWF
          refine hK.out _ _ (HARS.out _ HX2.out.below) (fun hHeld2 => ?_)
          clear hK K
          try simp only [Act.put, List.getElem_toArray, List.getElem_cons_zero, List.getElem_cons_succ, List.setIfInBounds_toArray, List.set_cons_zero, List.set_cons_succ]
          refine wpAnyH_take (i := 20) (v := ?vb20) rfl (by kernel_rfl) (by kernel_rfl) (by kernel_rfl) (fun _ _ _ h => h) (Or.inl ⟨by rfl, ?hyb20⟩) (by assumption) ?restb20
          case hyb20 =>
            intro w hSw
            (try dsimp only at hSw)
            go_simp
            try with_reducible rfl
          try simp only [Act.put, List.getElem_toArray, List.getElem_cons_zero, List.getElem_cons_succ, List.setIfInBounds_toArray, List.set_cons_zero, List.set_cons_succ]
          refine wpAnyH_take (i := 21) (v := ?vb21) rfl (by kernel_rfl) (by kernel_rfl) (by kernel_rfl) (fun _ _ _ h => h) (Or.inl ⟨by rfl, ?hyb21⟩) (by assumption) ?restb21
          case hyb21 =>
            intro w hSw
            (try dsimp only at hSw)
            go_simp
            try with_reducible rfl
          try simp only [Act.put, List.getElem_toArray, List.getElem_cons_zero, List.getElem_cons_succ, List.setIfInBounds_toArray, List.set_cons_zero, List.set_cons_succ]
          refine wpAnyH_done (by kernel_rfl) ?_ _
          refine NoPanic.normal ?_
          clear hHeld hHeld1 hHeld2
          obtain ⟨c0, c1, c2⟩ := HARS.out W2 HX2.out.below
          have HN' : Hid (Inv n (k + 1) D) := HN.out.succ
          go_wp2
          go_roundw
          case rel => exact ⟨k + 1, D, O, by omega, rfl, HN', HO, HNO.out, HX2⟩
          case measure => simp [intOf]; omega
      · have a0 : (ask == 0) = false := by rw [beq_eq_false_iff_ne]; exact ha0
        have hab : ab < wr.heap.size := block_lt c0
        have q0 : ∀ q : ExtB wr.heap.size wr, q.w.cell? ⟨ab, ao + k * 3, none⟩ = some (.int .i64 ask) := fun q => (q.below.cell (p := ⟨ab, ao + k * 3, none⟩) hab).trans c0
        clear ha0 c0 c1 c2 hab
        go_wp2_with fail
        refine wp_region_quiet_below (by kernel_rfl) (by kernel_rfl) ?_
        repeat (go_big_quiet_step (fail))
        refine wpQuiet_nil ?_
        intro WQ hw2
        obtain ⟨q, hq⟩ := hw2
        have hb2 := q.below
        rw [← hq] at hb2
        clear hq q
        have HX1 : Hid (Hv w No [devA d D, opA (.slice AO nO cO) O] WQ) := (HX.out.still hb2).pick [1, 0]
        clear hb2 q0 HX
        obtain ⟨c0, c1, c2⟩ := HARS.out WQ HX1.out.below
        have HN' : Hid (Inv n (k + 1) D) := HN.out.succ
        by_cases ha2 : ask = 2
        · subst ha2
          go_wp2_with fail
          obtain ⟨T, hT, hJ⟩ := Hv.use [devA d D] _ HX1.out
          refine (flush_any (Lib.hid (by have := HN.out.olen; omega)) (Lib.hid HN.out.ok) (Lib.hid hT)).mono ?_
          rintro e W2 ⟨rfl, h2⟩
          rw [HN.out.flushF] at h2
          have HWF : Hid ((flushF D).1 = 0) := by show _ = _; rw [HN.out.flushF]
          rw [HWF.out]
          have HN2 : Hid (Inv n (k + 1) (flushD D)) := HN.out.flushD.succ
          have HX2 : Hid (Hv w No [opA (.slice none 0 0) [], devA d (flushD D)] W2) := ((hJ _ _ h2).pick [0]).nilRow 31 3
          have HO2 : Hid ((flushD D).opn = ([] : List Cl).map toW) := rfl
          clear h2 hT hJ HX1 HWF c0 c1 c2
          go_wp2_with fail
          go_roundw
          case rel => exact ⟨k + 1, flushD D, [], by omega, rfl, HN2, HO2, rfl, HX2⟩
          case measure => simp [intOf]; omega
        · have a2 : (ask == 2) = false := by rw [beq_eq_false_iff_ne]; exact ha2
          have HX2 : Hid (Hv w No [opA (.slice AO nO cO) O, devA d D] WQ) := HX1.out.pick [1, 0]
          clear ha2 HX1
          go_wp2
          go_roundw
          case rel => exact ⟨k + 1, D, O, by omega, rfl, HN', HO, HNO.out, HX2⟩
          case measure => simp [intOf]; omega
    · obtain rfl : k = L := by omega
      clear hkl hk hA HL
      have HRB : Hid (∀ W, Below w.heap.size w W → RowB W (.slice AK LK cK) ks) := fun W hW => hK.out.below hW
      have HLO : Hid (D.opn.length ≤ 100000) := by show _ ≤ _; have := HN.out.olen; omega
      have HFN : Hid (D.firm ≠ [] ∧ D.firm.length ≤ 5000) := ⟨by intro e; have := HN.out.flen; rw [e] at this; simp at this; omega, by have := HN.out.flen; omega⟩
      have HON : Hid (((D.opn.length : Nat) : Int) = (nO : Int)) := by show _ = _; rw [← HOL.out, HNO.out]
      have HX0 : Hid (Hv w No [devA d D, opA (.slice AO nO cO) O] wr) := HX.out.pick [1, 0]
      clear HX
      go_wp2_with fail
      obtain ⟨T, hT, _⟩ := Hv.use [devA d D] _ HX0.out
      refine (open_any (Lib.hid hT)).mono ?_
      rintro e w3 ⟨rfl, rfl⟩
      rw [HON.out]
      clear hT
      by_cases hov : nO < LK
      · have d5 : decide ((nO : Int) < (LK : Int)) = true := decide_eq_true (by omega)
        go_wp2_with fail
        obtain ⟨T, hT, _⟩ := Hv.use [devA d D] _ HX0.out
        refine (open_any (Lib.hid hT)).mono ?_
        rintro e w4 ⟨rfl, rfl⟩
        rw [HON.out]
        clear hT
        go_wp2_with fail
        refine (awake_any _).mono ?_
        rintro e w30 ⟨rfl, hb⟩
        have HB := Lib.hid (HX0.out.still hb).below
        clear hb
        go_wp2
        go_ret
        exact ⟨rfl, HB.out⟩
      · have d5 : decide ((nO : Int) < (LK : Int)) = false := decide_eq_false (by omega)
        have HOV : Hid (ks.length ≤ D.opn.length) := by show _ ≤ _; have := HOL.out; have := HNO.out; have := HLK.out; omega
        go_wp2_with fail
        obtain ⟨T, hT, _⟩ := Hv.use [devA d D] _ HX0.out
        refine (crash_any ks (Lib.hid (HRB.out _ HX0.out.below)) HOV HLO HFN (Lib.hid HN.out.ok) (Lib.hid hT)).mono ?_
        rintro e w3 ⟨x, rfl, h3⟩
        have H1 : Hid (Hv w No [rowA (.slice none 0 0) 4 1 0 (List.replicate 0 (.bool true)), devA d D, devA x (crashD D ks), opA (.slice AO nO cO) O] w3) := ((HX0.out.add h3).pick [1, 0, 2]).nilRow 4 1
        clear h3 hT HX0
        go_wp2_with fail
        go_loopw [13, 14] (fun o i wr => ∃ k : Nat, k ≤ nO ∧ i = .int .i64 k ∧ slen o = k ∧ Hid (Hv w No [rowA o 4 1 k (List.replicate k (.bool true)), devA d D, devA x (crashD D ks), opA (.slice AO nO cO) O] wr)) (fun _ i _ => nO - (intOf i).toNat)
        case atStart => exact ⟨0, by omega, rfl, rfl, H1.out⟩
        case round =>
          clear H1
          obtain ⟨j, hj, rfl, hsl, HI⟩ := hrel
          obtain ⟨AV, cV, rfl⟩ := row_form (HI.out.row (i := 0) rfl)
          clear hsl
          by_cases hjl : j < nO
          · obtain ⟨g, cap, W4, hE, hH⟩ := app_true HI.out (by have := HLO.out; have := HOL.out; have := HNO.out; omega)
            have HE := Lib.hid hE
            have HX4 := Lib.hid hH
            clear hE hH HI
            go_wp2_with (at_builtin; refine wpList_append_run rfl (.tmp 127) (.tmp 128) _ rfl HE.out ?_)
            go_roundw
            case rel => exact ⟨j + 1, by omega, rfl, rfl, HX4⟩
            case measure => simp [intOf]; omega
          · obtain rfl : j = nO := by omega
            clear hjl hj

            have HRT : Hid (RowB wr (.slice AV j cV) (List.replicate j true)) := rowB_own (HI.out.row (i := 0) rfl)
            have HKA : Hid (kept D.opn (List.replicate j true) = D.opn) := by show _ = _; rw [HNO.out, HOL.out]; exact kept_all _
            have HI2 : Hid (Hv w No [devA d D, devA x (crashD D ks), opA (.slice AO j cO) O] wr) := HI.out.pick [1, 2, 3]
            clear HI
            go_wp2_with fail
            obtain ⟨T, hT, _⟩ := Hv.use [devA d D] _ HI2.out
            refine (crash_any (List.replicate j true) HRT (Lib.hid (by rw [List.length_replicate]; have := HOL.out; have := HNO.out; omega)) HLO HFN (Lib.hid HN.out.ok) (Lib.hid hT)).mono ?_
            rintro e w4 ⟨y, rfl, h4⟩
            obtain ⟨CA, hCA⟩ : ∃ C, C = crashD D (List.replicate j true) := ⟨_, rfl⟩
            obtain ⟨C, hC⟩ : ∃ C, C = crashD D ks := ⟨_, rfl⟩
            have HCA : Hid (CA.firm = flushL D.firm D.opn ∧ CA.opn = [] ∧ CA.plan = []) := by
              show _ ∧ _
              rw [hCA]
              exact ⟨by show flushL D.firm (kept _ _) = _; rw [HKA.out], rfl, rfl⟩
            have HNA : Hid (Inv n 0 CA) := by show Inv _ _ _; rw [hCA]; exact inv_crash HN.out.okb HN.out.flen _
            have HNC : Hid (Inv n 0 C) := by show Inv _ _ _; rw [hC]; exact inv_crash HN.out.okb HN.out.flen _
            have HCF : Hid (∀ s : Nat, s < n → (decide (firmAt C (s : Int) = firmAt D (s : Int)) || O.any (hit (s : Int) (firmAt C (s : Int)))) = true) := fun s hs => by
              rw [hC]
              exact loses_hit HO.out (by rw [HN.out.flen]; exact hs) HN.out.ok
            have H4 : Hid (Hv w No [devA d D, devA x C, opA (.slice AO j cO) O, devA y CA] w4) := by
              rw [hC, hCA]
              exact (HI2.out.add h4).pick [1, 2, 3, 0]
            clear h4 hT HI2 hCA hC HKA HRT
            go_wp2_with fail
            have hlb := laid_bl
            have hz := zero34
            have hml := markC_length
            go_loopw [17] (fun i wr => ∃ s : Nat, s ≤ n ∧ i = .int .i64 s ∧ Hid (Hv w No [devA d D, devA x C, opA (.slice AO j cO) O, devA y CA] wr)) (fun i _ => n - (intOf i).toNat)
            case atStart => exact ⟨0, by omega, rfl, H4⟩
            case round =>
              clear H4
              obtain ⟨s, hs, rfl, HI⟩ := hrel
              by_cases hsl : s < n
              · have hcf := HCF.out s hsl
                obtain ⟨_, ht1⟩ := firmAt_nat (D := D) (k := s) (by rw [HN.out.flen]; exact hsl)
                obtain ⟨_, ht2⟩ := firmAt_nat (D := C) (k := s) (by rw [HNC.out.flen]; exact hsl)
                have HT1 := Lib.hid ht1
                have HT2 := Lib.hid ht2
                have he := fun w => eql_block (firm_byte (s := (s : Int)) HNC.out.okb) (firm_byte (s := (s : Int)) HN.out.okb) w
                have hbn := firm_byte (s := (s : Int)) HNC.out.okb
                obtain ⟨a0, ha0⟩ : ∃ a, a = firmAt D (s : Int) := ⟨_, rfl⟩
                obtain ⟨b0, hb0⟩ : ∃ a, a = firmAt C (s : Int) := ⟨_, rfl⟩
                rw [← ha0, ← hb0] at he hcf
                rw [← hb0] at hbn
                obtain ⟨q0, hq0⟩ : ∃ q, q = decide (b0 = a0) := ⟨_, rfl⟩
                rw [← hq0] at he hcf
                have HA0 : Hid (firmAt D (s : Int) = a0) := ha0.symm
                have HB0 : Hid (firmAt C (s : Int) = b0) := hb0.symm
                have HCC := Lib.hid hcf
                have HBN := Lib.hid hbn
                clear ht1 ht2 ha0 hb0 hcf hbn hq0
                go_wp2_with fail
                obtain ⟨T, hT, _⟩ := Hv.use [devA d D] _ HI.out
                refine (firm_yes (s : Int) HT1 (Lib.hid hT)).mono ?_
                rintro e w5 ⟨rfl, h5⟩
                rw [HA0.out]
                have HI5 := Lib.hid (HI.out.still h5)
                clear h5 hT HI
                go_wp2_with fail
                obtain ⟨P18, hP⟩ : ∃ y, y = w5.heap.size := ⟨_, rfl⟩
                obtain ⟨W18, hW⟩ : ∃ y, y = w5.alloc (.cells (markC a0).toArray 34) := ⟨_, rfl⟩
                have hq := HI5.out.alloc 34 (markC a0).toArray
                rw [← hW, ← hP] at hq
                rw [← hW, ← hP]
                have HI6 : Hid (Hv w No [devA x C, opA (.slice AO j cO) O, blkA P18 34 (markC a0).toArray, devA d D, devA y CA] W18) := hq.pick [2, 3, 0, 1, 4]
                clear hq hW hP HI5
                obtain ⟨T, hT, _⟩ := Hv.use [devA x C] _ HI6.out
                refine (firm_yes (s : Int) HT2 (Lib.hid hT)).mono ?_
                rintro e w6 ⟨rfl, h6⟩
                rw [HB0.out]
                have HI7 := Lib.hid (HI6.out.still h6)
                clear h6 hT HI6
                go_upto_region 30 with (fail)
                obtain ⟨P20, hP⟩ : ∃ y, y = w6.heap.size := ⟨_, rfl⟩
                obtain ⟨W20, hW⟩ : ∃ y, y = w6.alloc (.cells (markC b0).toArray 34) := ⟨_, rfl⟩
                have hq := HI7.out.alloc 34 (markC b0).toArray
                rw [← hW, ← hP] at hq
                rw [← hW, ← hP]
                have hr18 : W20.rangeAt P18 0 (markC a0) := blk_range (hq.blk (i := 3) rfl)
                have hr20 : W20.rangeAt P20 0 (markC b0) := blk_range (hq.blk (i := 0) rfl)
                have HI8 : Hid (Hv w No [opA (.slice AO j cO) O, blkA P20 34 (markC b0).toArray, devA d D, devA x C, devA y CA] W20) := hq.pick [2, 0, 4, 1, 5]
                clear hq hW hP HI7
                go_wp2_with (first
                  | (refine step_load_block hr18 rfl (.tmp 18) rfl rfl ?_)
                  | (refine step_load_block hr20 rfl (.tmp 20) rfl rfl ?_)
                  | fail)
                clear hr18 hr20 he
                go_loopw [22, 23] (fun b i wr => ∃ (t : Nat) (qb : Bool), t ≤ j ∧ i = .int .i64 t ∧ b = .bool qb ∧ Hid (qb = (q0 || (O.take t).any (hit (s : Int) b0))) ∧ Hid (Hv w No [opA (.slice AO j cO) O, blkA P20 34 (markC b0).toArray, devA d D, devA x C, devA y CA] wr)) (fun _ i _ => j - (intOf i).toNat)
                case atStart => exact ⟨0, q0, by omega, rfl, rfl, by show _ = _; simp, HI8⟩
                case round =>
                  clear HI8
                  obtain ⟨t, qb, htj, rfl, rfl, HQB, HI⟩ := hrel
                  by_cases htl : t < j
                  · have hto : t < O.length := by rw [← HNO.out]; exact htl
                    have HTK : Hid ((q0 || (O.take (t + 1)).any (hit (s : Int) b0)) = (qb || hit (s : Int) b0 O[t])) := by
                      show _ = _
                      rw [List.take_add_one, List.getElem?_eq_getElem hto, List.any_append, HQB.out, Bool.or_assoc]
                      simp
                    have hoc := fun W (hW : Below wr.heap.size wr W) => op_cells (row_below (HI.out.row (i := 0) rfl) hW) t hto
                    obtain ⟨o, ho⟩ : ∃ o, o = O[t] := ⟨_, rfl⟩
                    rw [← ho] at HTK
                    rw [← ho] at hoc
                    obtain ⟨oa, os, oz⟩ := o
                    have HOC := Lib.hid hoc
                    clear ho hoc hto
                    cases qb with
                    | true =>
                      have HQ2 : Hid (true = (q0 || (O.take (t + 1)).any (hit (s : Int) b0))) := by show _ = _; rw [HTK.out]; simp
                      go_wp2_with fail
                      refine wp_region_quiet_below (by kernel_rfl) (by kernel_rfl) ?_
                      repeat (go_big_quiet_step (fail))
                      refine wpQuiet_nil ?_
                      intro WQ hw2
                      obtain ⟨q, hq⟩ := hw2
                      have hb2 := q.below
                      rw [← hq] at hb2
                      clear hq q
                      have HI9 := Lib.hid (HI.out.still hb2)
                      clear hb2 HI
                      go_wp2
                      go_roundw
                      case rel => exact ⟨t + 1, true, by omega, rfl, rfl, HQ2, HI9⟩
                      case measure => simp [intOf]; omega
                    | false =>
                      obtain ⟨g, rfl, k0, k1, k2⟩ := HOC.out wr (Below.refl _ _)
                      have f1 : (0 : Int) ≤ (t : Int) := by omega
                      have f2 : (t : Int) < (j : Int) := by omega
                      have hgl : g < wr.heap.size := block_lt k0
                      by_cases hos : os = (s : Int)
                      · have b1 : (os == (s : Int)) = true := by rw [beq_iff_eq]; exact hos
                        have HKW : Hid (∀ W, Below wr.heap.size wr W → W.cell? ⟨g, t * 3 + 1, none⟩ = some (.int .i64 os) ∧ W.cell? ⟨g, t * 3 + 2, none⟩ = some (.int .i64 oz) ∧ W.rangeAt P20 0 (markC b0)) := fun W hW =>
                          ⟨(hW.cell (p := ⟨g, t * 3 + 1, none⟩) hgl).trans k1, (hW.cell (p := ⟨g, t * 3 + 2, none⟩) hgl).trans k2, blk_range ((HI.out.still hW).blk (i := 1) rfl)⟩
                        have heq := fun w => eql_block (i := oz % 256) (by omega) HBN.out w
                        obtain ⟨oz2, hoz2⟩ : ∃ y, y = oz % 256 := ⟨_, rfl⟩
                        rw [← hoz2] at heq
                        obtain ⟨q1, hq1⟩ : ∃ q, q = decide (oz2 = b0) := ⟨_, rfl⟩
                        rw [← hq1] at heq
                        have HQ2 : Hid (q1 = (q0 || (O.take (t + 1)).any (hit (s : Int) b0))) := by show _ = _; rw [HTK.out, hq1, hoz2]; unfold hit; rw [b1]; rfl
                        have HOZ := Lib.hid hoz2
                        have HX0 : Hid (Hv wr No [] wr.drew) := (Hv.begin wr).drew
                        clear hos hoz2 hq1 hgl k0 k1 k2
                        go_wp2_with fail
                        refine wp_region_noPanic ?_
                        refine wp_region_held_drew (S := (fun W => W.cell? ⟨g, t * 3 + 1, none⟩ = some (.int .i64 os) ∧ W.cell? ⟨g, t * 3 + 2, none⟩ = some (.int .i64 oz) ∧ W.rangeAt P20 0 (markC b0))) (by kernel_rfl) (HKW.out _ HX0.out.below) (fun hHeld => ?_)
                        refine wpAnyH_take (i := 0) (v := ?vz0) rfl (by kernel_rfl) (by kernel_rfl) (by kernel_rfl) (fun _ _ _ h => h) (Or.inl ⟨by rfl, ?hyz0⟩) (by assumption) ?restz0
                        case hyz0 =>
                          intro w hSw
                          (try dsimp only at hSw)
                          go_simp
                          try with_reducible rfl
                        try simp only [Act.put, List.getElem_toArray, List.getElem_cons_zero, List.setIfInBounds_toArray, List.set_cons_zero, List.set_cons_succ]
                        refine wpAnyH_take (i := 1) (v := ?vz1) rfl (by kernel_rfl) (by kernel_rfl) (by kernel_rfl) (fun _ _ _ h => h) (Or.inl ⟨by rfl, ?hyz1⟩) (by assumption) ?restz1
                        case hyz1 =>
                          intro w hSw
                          (try dsimp only at hSw)
                          go_simp
                          try with_reducible rfl
                        try simp only [Act.put, List.getElem_toArray, List.getElem_cons_zero, List.getElem_cons_succ, List.setIfInBounds_toArray, List.set_cons_zero, List.set_cons_succ]
                        refine wpAnyH_take (i := 2) (v := ?vz2) rfl (by kernel_rfl) (by kernel_rfl) (by kernel_rfl) (fun _ _ _ h => h) (Or.inl ⟨by rfl, ?hyz2⟩) (by assumption) ?restz2
                        case hyz2 =>
                          intro w hSw
                          (try dsimp only at hSw)
                          go_simp
                          try with_reducible rfl
                        try simp only [Act.put, List.getElem_toArray, List.getElem_cons_zero, List.getElem_cons_succ, List.setIfInBounds_toArray, List.set_cons_zero, List.set_cons_succ]
                        refine wpAnyH_take (i := 3) (v := ?vz3) rfl (by kernel_rfl) (by kernel_rfl) (by kernel_rfl) (fun _ _ _ h => h) (Or.inl ⟨by rfl, ?hyz3⟩) (by assumption) ?restz3
                        case hyz3 =>
                          intro w hSw
                          (try dsimp only at hSw)
                          go_simp
                          try with_reducible rfl
                        try simp only [Act.put, List.getElem_toArray, List.getElem_cons_zero, List.getElem_cons_succ, List.setIfInBounds_toArray, List.set_cons_zero, List.set_cons_succ]
                        refine wpAnyH_take (i := 4) (v := ?vz4) rfl (by kernel_rfl) (by kernel_rfl) (by kernel_rfl) (fun _ _ _ h => h) (Or.inl ⟨by rfl, ?hyz4⟩) (by assumption) ?restz4
                        case hyz4 =>
                          intro w hSw
                          (try dsimp only at hSw)
                          go_simp
                          try with_reducible rfl
                        try simp only [Act.put, List.getElem_toArray, List.getElem_cons_zero, List.getElem_cons_succ, List.setIfInBounds_toArray, List.set_cons_zero, List.set_cons_succ]
                        refine wpAnyH_take (i := 5) (v := ?vz5) rfl (by kernel_rfl) (by kernel_rfl) (by kernel_rfl) (fun _ _ _ h => h) (Or.inl ⟨by rfl, ?hyz5⟩) (by assumption) ?restz5
                        case hyz5 =>
                          intro w hSw
                          (try dsimp only at hSw)
                          go_simp
                          try with_reducible rfl
                        try simp only [Act.put, List.getElem_toArray, List.getElem_cons_zero, List.getElem_cons_succ, List.setIfInBounds_toArray, List.set_cons_zero, List.set_cons_succ]
                        refine wpAnyH_take (i := 6) (v := ?vz6) rfl (by kernel_rfl) (by kernel_rfl) (by kernel_rfl) (fun _ _ _ h => h) (Or.inl ⟨by rfl, ?hyz6⟩) (by assumption) ?restz6
                        case hyz6 =>
                          intro w hSw
                          (try dsimp only at hSw)
                          go_simp
                          try with_reducible rfl
                        try simp only [Act.put, List.getElem_toArray, List.getElem_cons_zero, List.getElem_cons_succ, List.setIfInBounds_toArray, List.set_cons_zero, List.set_cons_succ]
                        refine wpAnyH_take (i := 7) (v := ?vz7) rfl (by kernel_rfl) (by kernel_rfl) (by kernel_rfl) (fun _ _ _ h => h) (Or.inl ⟨by rfl, ?hyz7⟩) (by assumption) ?restz7
                        case hyz7 =>
                          intro w hSw
                          (try dsimp only at hSw)
                          go_simp
                          try with_reducible rfl
                        try simp only [Act.put, List.getElem_toArray, List.getElem_cons_zero, List.getElem_cons_succ, List.setIfInBounds_toArray, List.set_cons_zero, List.set_cons_succ]
                        refine wpAnyH_take (i := 8) (v := ?vz8) rfl (by kernel_rfl) (by kernel_rfl) (by kernel_rfl) (fun _ _ _ h => h) (Or.inl ⟨by rfl, ?hyz8⟩) (by assumption) ?restz8
                        case hyz8 =>
                          intro w hSw
                          (try dsimp only at hSw)
                          go_simp
                          try with_reducible rfl
                        try simp only [Act.put, List.getElem_toArray, List.getElem_cons_zero, List.getElem_cons_succ, List.setIfInBounds_toArray, List.set_cons_zero, List.set_cons_succ]
                        refine wpAnyH_take (i := 9) (v := ?vz9) rfl (by kernel_rfl) (by kernel_rfl) (by kernel_rfl) (fun _ _ _ h => h) (Or.inl ⟨by rfl, ?hyz9⟩) (by assumption) ?restz9
                        case hyz9 =>
                          intro w hSw
                          (try dsimp only at hSw)
                          go_simp
                          try with_reducible rfl
                        try simp only [Act.put, List.getElem_toArray, List.getElem_cons_zero, List.getElem_cons_succ, List.setIfInBounds_toArray, List.set_cons_zero, List.set_cons_succ]
                        refine wpAnyH_take (i := 10) (v := ?vz10) rfl (by kernel_rfl) (by kernel_rfl) (by kernel_rfl) (fun _ _ _ h => h) (Or.inl ⟨by rfl, ?hyz10⟩) (by assumption) ?restz10
                        case hyz10 =>
                          intro w hSw
                          (try dsimp only at hSw)
                          go_simp
                          try with_reducible rfl
                        try simp only [Act.put, List.getElem_toArray, List.getElem_cons_zero, List.getElem_cons_succ, List.setIfInBounds_toArray, List.set_cons_zero, List.set_cons_succ]
                        refine wpAnyH_take (i := 11) (v := ?vz11) rfl (by kernel_rfl) (by kernel_rfl) (by kernel_rfl) (fun _ _ _ h => h) (Or.inl ⟨by rfl, ?hyz11⟩) (by assumption) ?restz11
                        case hyz11 =>
                          intro w hSw
                          (try dsimp only at hSw)
                          go_simp
                          try with_reducible rfl
                        try simp only [Act.put, List.getElem_toArray, List.getElem_cons_zero, List.getElem_cons_succ, List.setIfInBounds_toArray, List.set_cons_zero, List.set_cons_succ]
                        refine wpAnyH_take (i := 12) (v := ?vz12) rfl (by kernel_rfl) (by kernel_rfl) (by kernel_rfl) (fun _ _ _ h => h) (Or.inl ⟨by rfl, ?hyz12⟩) (by assumption) ?restz12
                        case hyz12 =>
                          intro w hSw
                          (try dsimp only at hSw)
                          go_simp
                          try with_reducible rfl
                        try simp only [Act.put, List.getElem_toArray, List.getElem_cons_zero, List.getElem_cons_succ, List.setIfInBounds_toArray, List.set_cons_zero, List.set_cons_succ]
                        refine wpAnyH_take (i := 13) (v := ?vz13) rfl (by kernel_rfl) (by kernel_rfl) (by kernel_rfl) (fun _ _ _ h => h) (Or.inl ⟨by rfl, ?hyz13⟩) (by assumption) ?restz13
                        case hyz13 =>
                          intro w hSw
                          (try dsimp only at hSw)
                          go_simp
                          try with_reducible rfl
                        try simp only [Act.put, List.getElem_toArray, List.getElem_cons_zero, List.getElem_cons_succ, List.setIfInBounds_toArray, List.set_cons_zero, List.set_cons_succ]
                        refine wpAnyH_take (i := 14) (v := ?vz14) rfl (by kernel_rfl) (by kernel_rfl) (by kernel_rfl) (fun _ _ _ h => h) (Or.inl ⟨by rfl, ?hyz14⟩) (by assumption) ?restz14
                        case hyz14 =>
                          intro w hSw
                          (try dsimp only at hSw)
                          go_simp
                          try with_reducible rfl
                        try simp only [Act.put, List.getElem_toArray, List.getElem_cons_zero, List.getElem_cons_succ, List.setIfInBounds_toArray, List.set_cons_zero, List.set_cons_succ]
                        refine wpAnyH_take (i := 16) (v := .agg _) rfl (by kernel_rfl) (by kernel_rfl) (by kernel_rfl) (fun _ _ _ h => h) (yieldsIf_load_mid (by rfl) 34 (.tmp 20) rfl _ _ rfl (markC b0) _ (fun w hSw => hSw.2.2) Try.underlying34 rfl (by rw [size34, markC_length])) (by assumption) ?_
                        try simp only [Act.put, List.getElem_toArray, List.getElem_cons_zero, List.getElem_cons_succ, List.setIfInBounds_toArray, List.set_cons_zero, List.set_cons_succ]
                        refine wpAnyH_ready (rs := [15]) (by kernel_rfl) (by simp) ?_
                        refine AllReadyH.cons rfl (fun K hK => ?_) AllReadyH.nil
                        go_simp
                        refine (mark_any oz _).mono ?_
                        rintro e W1 ⟨rfl, hb⟩
                        rw [← HOZ.out]
                        have HX1 := Lib.hid (HX0.out.still hb)
                        clear hb HX0
                        refine hK.out _ _ (HKW.out _ HX1.out.below) (fun hHeld1 => ?_)
                        clear hK K
                        try simp only [Act.put, List.getElem_toArray, List.getElem_cons_zero, List.getElem_cons_succ, List.setIfInBounds_toArray, List.set_cons_zero, List.set_cons_succ]
                        refine wpAnyH_take (i := 17) (v := ?vz17) rfl (by kernel_rfl) (by kernel_rfl) (by kernel_rfl) (fun _ _ _ h => h) (Or.inl ⟨by rfl, ?hyz17⟩) (by assumption) ?restz17
                        case hyz17 =>
                          intro w hSw
                          (try dsimp only at hSw)
                          go_simp
                          try with_reducible rfl
                        try simp only [Act.put, List.getElem_toArray, List.getElem_cons_zero, List.getElem_cons_succ, List.setIfInBounds_toArray, List.set_cons_zero, List.set_cons_succ]
                        refine wpAnyH_take (i := 18) (v := ?vz18) rfl (by kernel_rfl) (by kernel_rfl) (by kernel_rfl) (fun _ _ _ h => h) (Or.inl ⟨by rfl, ?hyz18⟩) (by assumption) ?restz18
                        case hyz18 =>
                          intro w hSw
                          (try dsimp only at hSw)
                          go_simp
                          try with_reducible rfl
                        try simp only [Act.put, List.getElem_toArray, List.getElem_cons_zero, List.getElem_cons_succ, List.setIfInBounds_toArray, List.set_cons_zero, List.set_cons_succ]
                        refine wpAnyH_take (i := 19) (v := ?vz19) rfl (by kernel_rfl) (by kernel_rfl) (by kernel_rfl) (fun _ _ _ h => h) (Or.inl ⟨by rfl, ?hyz19⟩) (by assumption) ?restz19
                        case hyz19 =>
                          intro w hSw
                          (try dsimp only at hSw)
                          go_simp
                          try with_reducible rfl
                        try simp only [Act.put, List.getElem_toArray, List.getElem_cons_zero, List.getElem_cons_succ, List.setIfInBounds_toArray, List.set_cons_zero, List.set_cons_succ]
                        refine wpAnyH_take (i := 20) (v := ?vz20) rfl (by kernel_rfl) (by kernel_rfl) (by kernel_rfl) (fun _ _ _ h => h) (Or.inl ⟨by rfl, ?hyz20⟩) (by assumption) ?restz20
                        case hyz20 =>
                          intro w hSw
                          (try dsimp only at hSw)
                          go_simp
                          try with_reducible rfl
                        try simp only [Act.put, List.getElem_toArray, List.getElem_cons_zero, List.getElem_cons_succ, List.setIfInBounds_toArray, List.set_cons_zero, List.set_cons_succ]
                        refine wpAnyH_done (by kernel_rfl) ?_ _
                        refine NoPanic.normal ?_
                        have HI9 := Lib.hid (HI.out.still HX1.out.below)
                        clear hHeld hHeld1 HKW HI heq
                        go_wp2
                        go_roundw
                        case rel => exact ⟨t + 1, q1, by omega, rfl, rfl, HQ2, HI9⟩
                        case measure => simp [intOf]; omega
                      · have b1 : (os == (s : Int)) = false := by rw [beq_eq_false_iff_ne]; exact hos
                        have HQ2 : Hid (false = (q0 || (O.take (t + 1)).any (hit (s : Int) b0))) := by show _ = _; rw [HTK.out]; unfold hit; rw [b1]; rfl
                        have q0' : ∀ q : ExtB wr.heap.size wr, q.w.cell? ⟨g, t * 3 + 1, none⟩ = some (.int .i64 os) := fun q => (q.below.cell (p := ⟨g, t * 3 + 1, none⟩) hgl).trans k1
                        clear hos hgl k0 k1 k2
                        go_wp2_with fail
                        refine wp_region_quiet_below (by kernel_rfl) (by kernel_rfl) ?_
                        repeat (go_big_quiet_step (fail))
                        refine wpQuiet_nil ?_
                        intro WQ hw2
                        obtain ⟨q, hq⟩ := hw2
                        have hb2 := q.below
                        rw [← hq] at hb2
                        clear hq q
                        have HI9 := Lib.hid (HI.out.still hb2)
                        clear hb2 HI q0'
                        go_wp2
                        go_roundw
                        case rel => exact ⟨t + 1, false, by omega, rfl, rfl, HQ2, HI9⟩
                        case measure => simp [intOf]; omega
                  · obtain rfl : t = j := by omega
                    have hqt : qb = true := by
                      have h1 := HQB.out
                      have h2 := HCC.out
                      rw [HNO.out, List.take_length] at h1
                      rw [h1, h2]
                    subst hqt
                    have HI9 : Hid (Hv w No [devA d D, devA x C, opA (.slice AO t cO) O, devA y CA] wr) := HI.out.pick [2, 3, 0, 4]
                    clear HI
                    go_wp2
                    go_roundw
                    case rel => exact ⟨s + 1, by omega, rfl, HI9⟩
                    case measure => simp [intOf]; omega
              · obtain rfl : s = n := by omega
                clear hsl hs HCF
                go_wp2_with fail
                obtain ⟨T, hT, hJ⟩ := Hv.use [devA d D] _ HI.out
                refine (flush_any HLO (Lib.hid HN.out.ok) (Lib.hid hT)).mono ?_
                rintro e w7 ⟨rfl, h7⟩
                rw [HN.out.flushF] at h7
                obtain ⟨E, hE⟩ : ∃ y, y = flushD D := ⟨_, rfl⟩
                have HNE : Hid (Inv s k E) := by show Inv _ _ _; rw [hE]; exact HN.out.flushD
                have HEO : Hid (E.opn = []) := by show _ = _; rw [hE]; rfl
                have HEF : Hid (E.firm = CA.firm) := by show _ = _; rw [hE, HCA.out.1]; rfl
                have HI7 : Hid (Hv w No [devA d E, devA y CA] w7) := by rw [hE]; exact (hJ _ _ h7).pick [0, 3]
                clear h7 hT hJ HI hE
                go_wp2_with fail
                obtain ⟨T, hT, _⟩ := Hv.use [devA d E] _ HI7.out
                refine (crash_any [] (Lib.hid ⟨_, _, rfl, fun j hj => absurd hj (by simp)⟩) (Lib.hid (Nat.zero_le _)) (Lib.hid (by rw [HEO.out]; exact Nat.zero_le _)) (Lib.hid ⟨by intro e; have := HNE.out.flen; rw [e] at this; simp at this; omega, by have := HNE.out.flen; omega⟩) (Lib.hid HNE.out.ok) (Lib.hid hT)).mono ?_
                rintro e w8 ⟨u, rfl, h8⟩
                rw [crash_none] at h8
                have HI8 : Hid (Hv w No [devA u ⟨E.firm, [], [], true⟩, devA y CA, devA d E] w8) := (HI7.out.add h8).pick [0, 2, 1]
                clear h8 hT HI7
                go_wp2_with fail
                obtain ⟨T, hT, _⟩ := Hv.use [devA u ⟨E.firm, [], [], true⟩, devA y CA] _ HI8.out
                refine (same_any (D := ⟨E.firm, [], [], true⟩) (E := CA) (Lib.hid ⟨HNE.out.okb.1, fun _ h => (by cases h)⟩) (Lib.hid HNA.out.okb) (Lib.hid ⟨by have := HNE.out.flen; show E.firm.length ≤ _; omega, Nat.zero_le _⟩) (Lib.hid rfl) (Lib.hid HCA.out.2.2) (Lib.hid hT)).mono ?_
                rintro e w9 ⟨rfl, hb⟩
                rw [show (decide (E.firm = CA.firm) && decide (([] : List Wr) = CA.opn)) = true by rw [decide_eq_true HEF.out, HCA.out.2.1, decide_eq_true rfl]; rfl]
                have HI9 := Lib.hid (HI8.out.still hb)
                clear hb hT HI8
                go_wp2_with fail
                obtain ⟨T, hT, _⟩ := Hv.use [devA u ⟨E.firm, [], [], true⟩, devA d E] _ (HI9.out.pick [0, 2, 1])
                refine (same_any (D := ⟨E.firm, [], [], true⟩) (E := E) (Lib.hid ⟨HNE.out.okb.1, fun _ h => (by cases h)⟩) (Lib.hid HNE.out.okb) (Lib.hid ⟨by have := HNE.out.flen; show E.firm.length ≤ _; omega, Nat.zero_le _⟩) (Lib.hid rfl) (Lib.hid HNE.out.plan) (Lib.hid hT)).mono ?_
                rintro e w10 ⟨rfl, hb⟩
                rw [show (decide (E.firm = E.firm) && decide (([] : List Wr) = E.opn)) = true by rw [HEO.out, decide_eq_true rfl, decide_eq_true rfl]; rfl]
                have HZ := Lib.hid (HI9.out.still hb)
                clear hb hT HI9
                go_wp2_with fail
                refine (awake_any _).mono ?_
                rintro e w30 ⟨rfl, hb⟩
                have HB := Lib.hid (HZ.out.still hb).below
                clear hb
                go_wp2
                go_ret
                exact ⟨rfl, HB.out⟩
end Go.Proofs.Ytbfmgdkiigkioaa

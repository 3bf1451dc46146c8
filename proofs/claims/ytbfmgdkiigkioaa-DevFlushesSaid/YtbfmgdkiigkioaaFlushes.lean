/- The walk of DevFlushes: its beginning, and its loop. -/
import Derived.Test.YtbfmgdkiigkioaaFlushesP
import Derived.Test.YtbfmgdkiigkioaaNil
namespace Go.Proofs.Ytbfmgdkiigkioaa
open Go.RowKit Go.LawEnd

set_option maxRecDepth 100000 in
set_option maxHeartbeats 6400000 in
theorem flushes_bad (A : Option Addr) (c : Nat) (m : Int) (l : List Cl) (a b : Int) (w : World) (hbad : Hid (¬ (1 ≤ m ∧ m ≤ 40 ∧ l.length ≤ 80))) :
    Calls Try.prog 7 #[.int .i64 m, .slice A l.length c, .agg #[.int .i64 a, .int .i64 b]] w (Yes w) := by
  obtain ⟨L, hL⟩ : ∃ L, L = l.length := ⟨_, rfl⟩
  rw [← hL] at hbad ⊢
  clear hL
  have hb0 := hbad.out
  have HV : Hid (Hv w No [] (w.alloc (.cells #[.int .i64 a, .int .i64 b] 43))) := (Hv.begin w).alloc_ _
  by_cases h1 : m < 1
  · have d1 : decide (m < 1) = true := decide_eq_true h1
    clear hb0 hbad
    go_enter Try.func7, Try.ntmps7
    go_wp2_with fail
    refine (awake_any _).mono ?_
    rintro e w2 ⟨rfl, hb⟩
    have HB := Lib.hid (HV.out.still hb).below
    clear hb HV
    go_wp2
    go_ret
    exact ⟨rfl, HB.out⟩
  · have d1 : decide (m < 1) = false := decide_eq_false h1
    by_cases h2 : 40 < m
    · have d2 : decide (40 < m) = true := decide_eq_true h2
      clear hb0 hbad
      go_enter Try.func7, Try.ntmps7
      go_wp2_with fail
      refine (awake_any _).mono ?_
      rintro e w2 ⟨rfl, hb⟩
      have HB := Lib.hid (HV.out.still hb).below
      clear hb HV
      go_wp2
      go_ret
      exact ⟨rfl, HB.out⟩
    · have d2 : decide (40 < m) = false := decide_eq_false h2
      have d3 : decide ((L : Int) ≤ 80) = false := decide_eq_false (by omega)
      clear hb0 hbad
      go_enter Try.func7, Try.ntmps7
      go_wp2_with fail
      refine (few_any _ _ _ _).mono ?_
      rintro e w2 ⟨rfl, rfl⟩
      rw [d3]
      go_wp2_with fail
      refine (awake_any _).mono ?_
      rintro e w2 ⟨rfl, hb⟩
      have HB := Lib.hid (HV.out.still hb).below
      clear hb HV
      go_wp2
      go_ret
      exact ⟨rfl, HB.out⟩
set_option maxRecDepth 100000 in
set_option maxHeartbeats 6400000 in
theorem flushes_good (A : Option Addr) (c n : Nat) (l : List Cl) (a b : Int) (w : World) (hg : Hid (1 ≤ n ∧ n ≤ 40 ∧ l.length ≤ 80)) (hA : Hid (ClArg w A l)) :
    Calls Try.prog 7 #[.int .i64 (n : Int), .slice A l.length c, .agg #[.int .i64 a, .int .i64 b]] w (Yes w) := by
  obtain ⟨L, hL⟩ : ∃ L, L = l.length := ⟨_, rfl⟩
  have HL := Lib.hid hL
  rw [← hL] at hg ⊢
  clear hL
  obtain ⟨g1, g2, g3⟩ := hg.out
  have d1 : decide ((n : Int) < 1) = false := decide_eq_false (by omega)
  have d2 : decide (40 < (n : Int)) = false := decide_eq_false (by omega)
  have d3 : decide ((L : Int) ≤ 80) = true := decide_eq_true (by omega)
  go_enter Try.func7, Try.ntmps7
  go_wp2_with fail
  refine (few_any _ _ _ _).mono ?_
  rintro e w2 ⟨rfl, rfl⟩
  rw [d3]
  obtain ⟨P5, hP5⟩ : ∃ y, y = w.heap.size := ⟨_, rfl⟩
  obtain ⟨V, hV⟩ : ∃ y, y = w.alloc (.cells #[.int .i64 a, .int .i64 b] 43) := ⟨_, rfl⟩
  have hv := (Hv.begin w).alloc 43 #[.int .i64 a, .int .i64 b]
  rw [← hV, ← hP5] at hv
  rw [← hV, ← hP5]
  have HV := Lib.hid hv
  clear hv hV hP5
  go_wp2_with fail
  refine (new_yes n _ g1 (by omega)).mono ?_
  rintro e w1 ⟨d, rfl, h1⟩
  have H0 : Hid (Hv w No [devA d (D0 n), blkA P5 43 #[.int .i64 a, .int .i64 b]] w1) := HV.out.add h1
  clear h1 HV
  go_wp2_with fail
  go_loopw [9] (fun i wr => ∃ k : Nat, k ≤ L ∧ i = .int .i64 k ∧ ∃ D, Inv n k D ∧ Hv w No [devA d D, blkA P5 43 #[.int .i64 a, .int .i64 b]] wr) (fun i _ => L - (intOf i).toNat)
  case atStart => exact ⟨0, by omega, rfl, _, inv_new n, H0.out⟩
  case round =>
    clear H0
    obtain ⟨k, hk, rfl, D, hinv, hi⟩ := hrel
    have HI := Lib.hid hi
    have HN := Lib.hid hinv
    clear hi hinv
    by_cases hkl : k < L
    · have hkl' : k < l.length := by rw [← HL.out]; exact hkl
      have HAR : Hid (∀ W, Below w.heap.size w W → ∃ b off, A = some ⟨b, off, none⟩ ∧ W.cell? ⟨b, off + k * 3, none⟩ = some (.int .i64 l[k].1) ∧ W.cell? ⟨b, off + k * 3 + 1, none⟩ = some (.int .i64 l[k].2.1) ∧ W.cell? ⟨b, off + k * 3 + 2, none⟩ = some (.int .i64 l[k].2.2)) := fun W hW => by
        obtain ⟨b, off, e, _, h⟩ := hA.out.below hW k hkl'
        exact ⟨b, off, e, h⟩
      obtain ⟨y, hy⟩ : ∃ y, y = l[k] := ⟨_, rfl⟩
      rw [← hy] at HAR
      clear hy hkl'
      obtain ⟨ask, s, z⟩ := y
      obtain ⟨ab, ao, rfl, c0, c1, c2⟩ := HAR.out wr HI.out.below
      have HARS : Hid (∀ W, Below w.heap.size w W → W.cell? ⟨ab, ao + k * 3, none⟩ = some (.int .i64 ask) ∧ W.cell? ⟨ab, ao + k * 3 + 1, none⟩ = some (.int .i64 s) ∧ W.cell? ⟨ab, ao + k * 3 + 2, none⟩ = some (.int .i64 z)) := fun W hW => by
        obtain ⟨b', o', e, h⟩ := HAR.out W hW
        injection e with e
        injection e with e1 e2
        subst e1
        subst e2
        exact h
      clear HAR
      by_cases hw : ask = 0 ∨ ask = 2
      · have HW := Lib.hid hw
        rcases hw with rfl | rfl
        all_goals go_wp2_with fail
        all_goals refine wp_region_noPanic ?_
        · refine wp_region_held_drew (S := (fun W => W.cell? ⟨ab, ao + k * 3, none⟩ = some (.int .i64 0) ∧ W.cell? ⟨ab, ao + k * 3 + 1, none⟩ = some (.int .i64 s) ∧ W.cell? ⟨ab, ao + k * 3 + 2, none⟩ = some (.int .i64 z))) (by kernel_rfl) ⟨c0, c1, c2⟩ (fun hHeld => ?_)
          refine wpAnyH_take (i := 0) (v := ?vp0) rfl (by kernel_rfl) (by kernel_rfl) (by kernel_rfl) (fun _ _ _ h => h) (Or.inl ⟨by rfl, ?hyp0⟩) (by assumption) ?restp0
          case hyp0 =>
            intro w hSw
            (try dsimp only at hSw)
            go_simp
            try with_reducible rfl
          try simp only [Act.put, List.getElem_toArray, List.getElem_cons_zero, List.setIfInBounds_toArray, List.set_cons_zero, List.set_cons_succ]
          refine wpAnyH_take (i := 1) (v := ?vp1) rfl (by kernel_rfl) (by kernel_rfl) (by kernel_rfl) (fun _ _ _ h => h) (Or.inl ⟨by rfl, ?hyp1⟩) (by assumption) ?restp1
          case hyp1 =>
            intro w hSw
            (try dsimp only at hSw)
            go_simp
            try with_reducible rfl
          try simp only [Act.put, List.getElem_toArray, List.getElem_cons_zero, List.getElem_cons_succ, List.setIfInBounds_toArray, List.set_cons_zero, List.set_cons_succ]
          refine wpAnyH_take (i := 3) (v := ?vp3) rfl (by kernel_rfl) (by kernel_rfl) (by kernel_rfl) (fun _ _ _ h => h) (Or.inl ⟨by rfl, ?hyp3⟩) (by assumption) ?restp3
          case hyp3 =>
            intro w hSw
            (try dsimp only at hSw)
            go_simp
            try with_reducible rfl
          try simp only [Act.put, List.getElem_toArray, List.getElem_cons_zero, List.getElem_cons_succ, List.setIfInBounds_toArray, List.set_cons_zero, List.set_cons_succ]
          refine wpAnyH_take (i := 4) (v := ?vp4) rfl (by kernel_rfl) (by kernel_rfl) (by kernel_rfl) (fun _ _ _ h => h) (Or.inl ⟨by rfl, ?hyp4⟩) (by assumption) ?restp4
          case hyp4 =>
            intro w hSw
            (try dsimp only at hSw)
            go_simp
            try with_reducible rfl
          try simp only [Act.put, List.getElem_toArray, List.getElem_cons_zero, List.getElem_cons_succ, List.setIfInBounds_toArray, List.set_cons_zero, List.set_cons_succ]
          refine wpAnyH_take (i := 5) (v := ?vp5) rfl (by kernel_rfl) (by kernel_rfl) (by kernel_rfl) (fun _ _ _ h => h) (Or.inl ⟨by rfl, ?hyp5⟩) (by assumption) ?restp5
          case hyp5 =>
            intro w hSw
            (try dsimp only at hSw)
            go_simp
            try with_reducible rfl
          try simp only [Act.put, List.getElem_toArray, List.getElem_cons_zero, List.getElem_cons_succ, List.setIfInBounds_toArray, List.set_cons_zero, List.set_cons_succ]
          refine wpAnyH_take (i := 6) (v := ?vp6) rfl (by kernel_rfl) (by kernel_rfl) (by kernel_rfl) (fun _ _ _ h => h) (Or.inl ⟨by rfl, ?hyp6⟩) (by assumption) ?restp6
          case hyp6 =>
            intro w hSw
            (try dsimp only at hSw)
            go_simp
            try with_reducible rfl
          try simp only [Act.put, List.getElem_toArray, List.getElem_cons_zero, List.getElem_cons_succ, List.setIfInBounds_toArray, List.set_cons_zero, List.set_cons_succ]
          refine wpAnyH_ready (rs := [2]) (by kernel_rfl) (by simp) ?_
          refine AllReadyH.cons rfl (fun K hK => ?_) AllReadyH.nil
          go_simp
          refine (rnew_any n (by omega) _).mono ?_
          rintro e W1 ⟨r, rfl, h1⟩
          have HX1 : Hid (Hv w No [devA d D, refA r (D0 n), blkA P5 43 #[.int .i64 a, .int .i64 b]] W1) := (HI.out.drew.add h1).pick [1, 0, 2]
          clear h1 c0 c1 c2
          refine hK.out _ _ (HARS.out _ HX1.out.below) (fun hHeld1 => ?_)
          clear hK K
          try simp only [Act.put, List.getElem_toArray, List.getElem_cons_zero, List.getElem_cons_succ, List.setIfInBounds_toArray, List.set_cons_zero, List.set_cons_succ]
          refine wpAnyH_ready (rs := [7]) (by kernel_rfl) (by simp) ?_
          refine AllReadyH.cons rfl (fun K hK => ?_) AllReadyH.nil
          go_simp
          obtain ⟨T1, hT1, hJ1⟩ := Hv.use [devA d D, refA r (D0 n)] _ HX1.out
          refine (does_write s z (z % 256) (Lib.hid rfl) (Lib.hid (by have := HN.out.olen; omega)) (Lib.hid (Nat.zero_le _)) (Lib.hid hT1)).mono ?_
          rintro e W2 ⟨rfl, h2⟩
          have HX2 : Hid (Hv w No [devA d (writeF D s (z % 256)).2, blkA P5 43 #[.int .i64 a, .int .i64 b]] W2) := (hJ1 _ _ h2).pick [0, 2]
          have HN2 : Hid (Inv n (k + 1) (writeF D s (z % 256)).2) := HN.out.write (by omega)
          clear h2 hT1 hJ1 HX1
          refine hK.out _ _ (HARS.out _ HX2.out.below) (fun hHeld2 => ?_)
          clear hK K
          try simp only [Act.put, List.getElem_toArray, List.getElem_cons_zero, List.getElem_cons_succ, List.setIfInBounds_toArray, List.set_cons_zero, List.set_cons_succ]
          refine wpAnyH_done (by kernel_rfl) ?_ _
          refine NoPanic.normal ?_
          clear hHeld hHeld1 hHeld2 HARS
          go_wp2
          go_roundw
          case rel => exact ⟨k + 1, by omega, rfl, _, HN2.out, HX2.out⟩
          case measure => simp [intOf]; omega
        · refine wp_region_held_drew (S := (fun W => W.cell? ⟨ab, ao + k * 3, none⟩ = some (.int .i64 2) ∧ W.cell? ⟨ab, ao + k * 3 + 1, none⟩ = some (.int .i64 s) ∧ W.cell? ⟨ab, ao + k * 3 + 2, none⟩ = some (.int .i64 z))) (by kernel_rfl) ⟨c0, c1, c2⟩ (fun hHeld => ?_)
          refine wpAnyH_take (i := 0) (v := ?vf0) rfl (by kernel_rfl) (by kernel_rfl) (by kernel_rfl) (fun _ _ _ h => h) (Or.inl ⟨by rfl, ?hyf0⟩) (by assumption) ?restf0
          case hyf0 =>
            intro w hSw
            (try dsimp only at hSw)
            go_simp
            try with_reducible rfl
          try simp only [Act.put, List.getElem_toArray, List.getElem_cons_zero, List.setIfInBounds_toArray, List.set_cons_zero, List.set_cons_succ]
          refine wpAnyH_take (i := 1) (v := ?vf1) rfl (by kernel_rfl) (by kernel_rfl) (by kernel_rfl) (fun _ _ _ h => h) (Or.inl ⟨by rfl, ?hyf1⟩) (by assumption) ?restf1
          case hyf1 =>
            intro w hSw
            (try dsimp only at hSw)
            go_simp
            try with_reducible rfl
          try simp only [Act.put, List.getElem_toArray, List.getElem_cons_zero, List.getElem_cons_succ, List.setIfInBounds_toArray, List.set_cons_zero, List.set_cons_succ]
          refine wpAnyH_take (i := 3) (v := ?vf3) rfl (by kernel_rfl) (by kernel_rfl) (by kernel_rfl) (fun _ _ _ h => h) (Or.inl ⟨by rfl, ?hyf3⟩) (by assumption) ?restf3
          case hyf3 =>
            intro w hSw
            (try dsimp only at hSw)
            go_simp
            try with_reducible rfl
          try simp only [Act.put, List.getElem_toArray, List.getElem_cons_zero, List.getElem_cons_succ, List.setIfInBounds_toArray, List.set_cons_zero, List.set_cons_succ]
          refine wpAnyH_take (i := 4) (v := ?vf4) rfl (by kernel_rfl) (by kernel_rfl) (by kernel_rfl) (fun _ _ _ h => h) (Or.inl ⟨by rfl, ?hyf4⟩) (by assumption) ?restf4
          case hyf4 =>
            intro w hSw
            (try dsimp only at hSw)
            go_simp
            try with_reducible rfl
          try simp only [Act.put, List.getElem_toArray, List.getElem_cons_zero, List.getElem_cons_succ, List.setIfInBounds_toArray, List.set_cons_zero, List.set_cons_succ]
          refine wpAnyH_take (i := 5) (v := ?vf5) rfl (by kernel_rfl) (by kernel_rfl) (by kernel_rfl) (fun _ _ _ h => h) (Or.inl ⟨by rfl, ?hyf5⟩) (by assumption) ?restf5
          case hyf5 =>
            intro w hSw
            (try dsimp only at hSw)
            go_simp
            try with_reducible rfl
          try simp only [Act.put, List.getElem_toArray, List.getElem_cons_zero, List.getElem_cons_succ, List.setIfInBounds_toArray, List.set_cons_zero, List.set_cons_succ]
          refine wpAnyH_take (i := 6) (v := ?vf6) rfl (by kernel_rfl) (by kernel_rfl) (by kernel_rfl) (fun _ _ _ h => h) (Or.inl ⟨by rfl, ?hyf6⟩) (by assumption) ?restf6
          case hyf6 =>
            intro w hSw
            (try dsimp only at hSw)
            go_simp
            try with_reducible rfl
          try simp only [Act.put, List.getElem_toArray, List.getElem_cons_zero, List.getElem_cons_succ, List.setIfInBounds_toArray, List.set_cons_zero, List.set_cons_succ]
          refine wpAnyH_ready (rs := [2]) (by kernel_rfl) (by simp) ?_
          refine AllReadyH.cons rfl (fun K hK => ?_) AllReadyH.nil
          go_simp
          refine (rnew_any n (by omega) _).mono ?_
          rintro e W1 ⟨r, rfl, h1⟩
          have HX1 : Hid (Hv w No [devA d D, refA r (D0 n), blkA P5 43 #[.int .i64 a, .int .i64 b]] W1) := (HI.out.drew.add h1).pick [1, 0, 2]
          clear h1 c0 c1 c2
          refine hK.out _ _ (HARS.out _ HX1.out.below) (fun hHeld1 => ?_)
          clear hK K
          try simp only [Act.put, List.getElem_toArray, List.getElem_cons_zero, List.getElem_cons_succ, List.setIfInBounds_toArray, List.set_cons_zero, List.set_cons_succ]
          refine wpAnyH_ready (rs := [7]) (by kernel_rfl) (by simp) ?_
          refine AllReadyH.cons rfl (fun K hK => ?_) AllReadyH.nil
          go_simp
          obtain ⟨T1, hT1, hJ1⟩ := Hv.use [devA d D, refA r (D0 n)] _ HX1.out
          refine (does_flush s z (Lib.hid (by have := HN.out.olen; omega)) (Lib.hid (Nat.zero_le _)) (Lib.hid HN.out.ok) (Lib.hid (inv_new n).ok) (Lib.hid hT1)).mono ?_
          rintro e W2 ⟨rfl, h2⟩
          have HX2 : Hid (Hv w No [devA d (flushF D).2, blkA P5 43 #[.int .i64 a, .int .i64 b]] W2) := (hJ1 _ _ h2).pick [0, 2]
          have HN2 : Hid (Inv n (k + 1) (flushF D).2) := HN.out.flush
          clear h2 hT1 hJ1 HX1
          refine hK.out _ _ (HARS.out _ HX2.out.below) (fun hHeld2 => ?_)
          clear hK K
          try simp only [Act.put, List.getElem_toArray, List.getElem_cons_zero, List.getElem_cons_succ, List.setIfInBounds_toArray, List.set_cons_zero, List.set_cons_succ]
          refine wpAnyH_done (by kernel_rfl) ?_ _
          refine NoPanic.normal ?_
          clear hHeld hHeld1 hHeld2 HARS
          go_wp2
          go_roundw
          case rel => exact ⟨k + 1, by omega, rfl, _, HN2.out, HX2.out⟩
          case measure => simp [intOf]; omega
      · have a0 : (ask == 0) = false := by rw [beq_eq_false_iff_ne]; omega
        have a2 : (ask == 2) = false := by rw [beq_eq_false_iff_ne]; omega
        have HN' : Hid (Inv n (k + 1) D) := HN.out.succ
        clear hw
        go_wp2
        go_roundw
        case rel => exact ⟨k + 1, by omega, rfl, _, HN'.out, HI.out⟩
        case measure => simp [intOf]; omega
    · obtain rfl : k = L := by omega
      clear hkl hk hA HL
      have HLB : Hid (D.opn.length ≤ 100000) := by show _ ≤ _; have := HN.out.olen; omega
      have HFN : Hid (D.firm ≠ [] ∧ D.firm.length ≤ 5000) := ⟨by intro e; have := HN.out.flen; rw [e] at this; simp at this; omega, by have := HN.out.flen; omega⟩
      go_wp2_with fail
      obtain ⟨T, hT, _⟩ := Hv.use [devA d D] _ HI.out
      refine (copy_any HFN HLB (Lib.hid HN.out.np) (Lib.hid hT)).mono ?_
      rintro e w3 ⟨c, rfl, h3⟩
      have HV3 : Hid (Hv w No [devA d D, devA c D, blkA P5 43 #[.int .i64 a, .int .i64 b]] w3) := (HI.out.add h3).pick [1, 0, 2]
      clear h3 hT HI
      go_wp2_with fail
      obtain ⟨T, hT, _⟩ := Hv.use [devA d D] _ HV3.out
      refine (crash_any [] (Lib.hid ⟨_, _, rfl, fun j hj => absurd hj (by simp)⟩) (Lib.hid (Nat.zero_le _)) HLB HFN (Lib.hid HN.out.ok) (Lib.hid hT)).mono ?_
      rintro e w4 ⟨x, rfl, h4⟩
      rw [crash_none] at h4
      have HV4 : Hid (Hv w No [devA c D, devA x ⟨D.firm, [], [], true⟩, devA d D, blkA P5 43 #[.int .i64 a, .int .i64 b]] w4) := (HV3.out.add h4).pick [2, 0, 1, 3]
      clear h4 hT HV3
      go_wp2_with fail
      obtain ⟨T, hT, _⟩ := Hv.use [devA c D] _ HV4.out
      refine (crash_any [] (Lib.hid ⟨_, _, rfl, fun j hj => absurd hj (by simp)⟩) (Lib.hid (Nat.zero_le _)) HLB HFN (Lib.hid HN.out.ok) (Lib.hid hT)).mono ?_
      rintro e w5 ⟨y, rfl, h5⟩
      rw [crash_none] at h5
      have HV5 : Hid (Hv w No [devA x ⟨D.firm, [], [], true⟩, devA y ⟨D.firm, [], [], true⟩, devA c D, devA d D, blkA P5 43 #[.int .i64 a, .int .i64 b]] w5) := (HV4.out.add h5).pick [2, 0, 1, 3, 4]
      clear h5 hT HV4
      go_wp2_with fail
      obtain ⟨T, hT, _⟩ := Hv.use [devA x ⟨D.firm, [], [], true⟩, devA y ⟨D.firm, [], [], true⟩] _ HV5.out
      refine (same_any (D := ⟨D.firm, [], [], true⟩) (E := ⟨D.firm, [], [], true⟩) (Lib.hid ⟨HN.out.okb.1, fun _ h => (by cases h)⟩) (Lib.hid ⟨HN.out.okb.1, fun _ h => (by cases h)⟩) (Lib.hid ⟨by have := HFN.out.2; show D.firm.length ≤ _; omega, Nat.zero_le _⟩) (Lib.hid rfl) (Lib.hid rfl) (Lib.hid hT)).mono ?_
      rintro e w6 ⟨rfl, hb⟩
      rw [show (decide (D.firm = D.firm) && decide (([] : List Wr) = [])) = true by rw [decide_eq_true rfl, decide_eq_true rfl]; rfl]
      have HV6 : Hid (Hv w No [devA c D, devA d D, blkA P5 43 #[.int .i64 a, .int .i64 b]] w6) := (HV5.out.still hb).pick [2, 3, 4]
      clear hb hT HV5
      have k0 : w6.cell? ⟨P5, 0, none⟩ = some (.int .i64 a) := by simpa using (HV6.out.blk (i := 2) rfl).cell 0
      have k1 : w6.cell? ⟨P5, 1, none⟩ = some (.int .i64 b) := by simpa using (HV6.out.blk (i := 2) rfl).cell 1
      have HND : Hid (Inv n k D) := HN
      by_cases hab : a = b
      · have f1 : (a == b) = true := by rw [beq_iff_eq]; exact hab
        clear hab
        have HEQ : Hid ((flushD D).firm = (flushD D).firm) := rfl
        go_wp2_with fail
        obtain ⟨T, hT, hJ⟩ := Hv.use [devA c D] _ HV6.out
        refine (flush_any (Lib.hid (by have := HND.out.olen; omega)) (Lib.hid HND.out.ok) (Lib.hid hT)).mono ?_
        rintro e w20 ⟨rfl, h5⟩
        rw [HND.out.flushF] at h5 ⊢
        have HF1 : Hid (Hv w No [devA d D, devA c (flushD D), blkA P5 43 #[.int .i64 a, .int .i64 b]] w20) := (hJ _ _ h5).pick [1, 0, 2]
        clear h5 hT hJ HV6
        go_wp2_with fail
        obtain ⟨T, hT, hJ⟩ := Hv.use [devA d D] _ HF1.out
        refine (flush_any (Lib.hid (by have := HND.out.olen; omega)) (Lib.hid HND.out.ok) (Lib.hid hT)).mono ?_
        rintro e w21 ⟨rfl, h5⟩
        rw [HND.out.flushF] at h5 ⊢
        obtain ⟨E, hE⟩ : ∃ y, y = flushD D := ⟨_, rfl⟩
        obtain ⟨F, hF⟩ : ∃ y, y = flushD D := ⟨_, rfl⟩
        have HF2 : Hid (Hv w No [devA c E, devA d F, blkA P5 43 #[.int .i64 a, .int .i64 b]] w21) := by rw [hE, hF]; exact (hJ _ _ h5).pick [1, 0, 2]
        clear h5 hT hJ HF1
        have HNE : Hid (Inv n (k + 10) E) := by show Inv _ _ _; rw [hE]; exact ⟨HND.out.flushD.plan, HND.out.flushD.np, HND.out.flushD.ok, HND.out.flushD.okb, HND.out.flushD.flen, Nat.zero_le _⟩
        have HNF : Hid (Inv n (k + 10) F) := by show Inv _ _ _; rw [hF]; exact ⟨HND.out.flushD.plan, HND.out.flushD.np, HND.out.flushD.ok, HND.out.flushD.okb, HND.out.flushD.flen, Nat.zero_le _⟩
        have HEF : Hid ((decide (E.firm = F.firm) && decide (E.opn = F.opn)) = true) := by
          show _ = _
          rw [decide_eq_true (by (first | (rw [hE, hF]; done) | (rw [hE, hF]; exact HEQ.out))), decide_eq_true (by (first | (rw [hE, hF]; done) | (rw [hE, hF]; rfl)))]
          rfl
        have HFO : Hid (F.opn = []) := by show _ = _; rw [hF]; rfl
        clear hE hF HEQ
        go_wp2_with fail
        obtain ⟨T, hT, _⟩ := Hv.use [devA c E, devA d F] _ HF2.out
        refine (same_any (Lib.hid HNE.out.okb) (Lib.hid HNF.out.okb) (Lib.hid (by have := HNE.out.olen; have := HNE.out.flen; omega)) (Lib.hid HNE.out.plan) (Lib.hid HNF.out.plan) (Lib.hid hT)).mono ?_
        rintro e w22 ⟨rfl, hb⟩
        rw [HEF.out]
        have HF3 : Hid (Hv w No [devA d F] w22) := (HF2.out.still hb).pick [1]
        clear hb hT HF2
        go_wp2_with fail
        obtain ⟨T, hT, _⟩ := Hv.use [devA d F] [] HF3.out
        refine (copy_any (Lib.hid ⟨by intro e; have := HNF.out.flen; rw [e] at this; simp at this; omega, by have := HNF.out.flen; omega⟩) (Lib.hid (by have := HNF.out.olen; omega)) (Lib.hid HNF.out.np) (Lib.hid hT)).mono ?_
        rintro e w23 ⟨x2, rfl, h9⟩
        have HF4 : Hid (Hv w No [devA d F, devA x2 F] w23) := (HF3.out.add h9).pick [1, 0]
        clear h9 hT HF3
        go_wp2_with fail
        obtain ⟨T, hT, hJ⟩ := Hv.use [devA d F] _ HF4.out
        refine (flush_any (Lib.hid (by have := HNF.out.olen; omega)) (Lib.hid HNF.out.ok) (Lib.hid hT)).mono ?_
        rintro e w24 ⟨rfl, h5⟩
        rw [HNF.out.flushF, flush_twice HFO.out] at h5
        rw [HNF.out.flushF]
        have HF5 : Hid (Hv w No [devA x2 F, devA d F] w24) := (hJ _ _ h5).pick [1, 0]
        clear h5 hT hJ HF4
        go_wp2_with fail
        obtain ⟨T, hT, _⟩ := Hv.use [devA x2 F, devA d F] [] HF5.out
        refine (same_any (Lib.hid HNF.out.okb) (Lib.hid HNF.out.okb) (Lib.hid (by have := HNF.out.olen; have := HNF.out.flen; omega)) (Lib.hid HNF.out.plan) (Lib.hid HNF.out.plan) (Lib.hid hT)).mono ?_
        rintro e w25 ⟨rfl, hb⟩
        rw [show (decide (F.firm = F.firm) && decide (F.opn = F.opn)) = true by rw [decide_eq_true rfl, decide_eq_true rfl]; rfl]
        have HZ := Lib.hid (HF5.out.still hb)
        clear hb hT HF5
        go_wp2_with fail
        refine (awake_any _).mono ?_
        rintro e w30 ⟨rfl, hb⟩
        have HB := Lib.hid (HZ.out.still hb).below
        clear hb
        go_wp2
        go_ret
        exact ⟨rfl, HB.out⟩
      · have f1 : (a == b) = false := by rw [beq_eq_false_iff_ne]; exact hab
        have HAB := Lib.hid hab
        clear hab
        go_wp2_with fail
        clear k0 k1 f1
        have HKP0 : Hid (∀ (DD : Dv) (W : World), Hv w No [devA c DD, devA d D, blkA P5 43 #[.int .i64 a, .int .i64 b]] W → W.cell? ⟨P5, 0, none⟩ = some (.int .i64 a)) := fun DD W hv => by simpa using (hv.blk (i := 2) rfl).cell 0
        have e1 := HKP0.out _ _ HV6.out
        refine wp_region_noPanic ?_
        refine wp_region_held_drew (S := (fun W => W.cell? ⟨P5, 0, none⟩ = some (.int .i64 a))) (by kernel_rfl) e1 (fun hHeld => ?_)
        clear e1
        refine wpAnyH_take (i := 0) (v := ?vs0) rfl (by kernel_rfl) (by kernel_rfl) (by kernel_rfl) (fun _ _ _ h => h) (Or.inl ⟨by rfl, ?hys0⟩) (by assumption) ?rests0
        case hys0 =>
          intro w hSw
          (try dsimp only at hSw)
          go_simp
          try with_reducible rfl
        try simp only [Act.put, List.getElem_toArray, List.getElem_cons_zero, List.setIfInBounds_toArray, List.set_cons_zero, List.set_cons_succ]
        refine wpAnyH_take (i := 1) (v := ?vs1) rfl (by kernel_rfl) (by kernel_rfl) (by kernel_rfl) (fun _ _ _ h => h) (Or.inl ⟨by rfl, ?hys1⟩) (by assumption) ?rests1
        case hys1 =>
          intro w hSw
          (try dsimp only at hSw)
          go_simp
          try with_reducible rfl
        try simp only [Act.put, List.getElem_toArray, List.getElem_cons_zero, List.getElem_cons_succ, List.setIfInBounds_toArray, List.set_cons_zero, List.set_cons_succ]
        refine wpAnyH_take (i := 2) (v := ?vs2) rfl (by kernel_rfl) (by kernel_rfl) (by kernel_rfl) (fun _ _ _ h => h) (Or.inl ⟨by rfl, ?hys2⟩) (by assumption) ?rests2
        case hys2 =>
          intro w hSw
          (try dsimp only at hSw)
          go_simp
          try with_reducible rfl
        try simp only [Act.put, List.getElem_toArray, List.getElem_cons_zero, List.getElem_cons_succ, List.setIfInBounds_toArray, List.set_cons_zero, List.set_cons_succ]
        refine wpAnyH_ready (rs := [3]) (by kernel_rfl) (by simp) ?_
        refine AllReadyH.cons rfl (fun K hK => ?_) AllReadyH.nil
        go_simp
        refine (mark_any 5 _).mono ?_
        rintro e wm0 ⟨rfl, hb⟩
        rw [show (5 : Int) % 256 = 5 from rfl]
        have HM0 := Lib.hid (HV6.out.drew.still hb)
        clear hb HV6
        refine hK.out _ _ (HKP0.out _ _ HM0.out) (fun hHeld1 => ?_)
        clear hK K
        try simp only [Act.put, List.getElem_toArray, List.getElem_cons_zero, List.getElem_cons_succ, List.setIfInBounds_toArray, List.set_cons_zero, List.set_cons_succ]
        refine wpAnyH_ready (rs := [4]) (by kernel_rfl) (by simp) ?_
        refine AllReadyH.cons rfl (fun K hK => ?_) AllReadyH.nil
        go_simp
        obtain ⟨T, hT, hJ⟩ := Hv.use [devA c D] _ HM0.out
        refine (write_any a 5 (Lib.hid (by have := HND.out.olen; omega)) (Lib.hid hT)).mono ?_
        rintro e ww0 ⟨rfl, h5⟩
        obtain ⟨D1, hD⟩ : ∃ y, y = (writeF D a 5).2 := ⟨_, rfl⟩
        have HDD1 := Lib.hid hD
        have HND1 : Hid (Inv n (k + 1) D1) := by show Inv _ _ _; rw [hD]; exact HND.out.write (by decide)
        have HY1 : Hid (Hv w No [devA c D1, devA d D, blkA P5 43 #[.int .i64 a, .int .i64 b]] ww0) := by rw [hD]; exact hJ _ _ h5
        clear h5 hT hJ HM0 hD
        refine hK.out _ _ (HKP0.out _ _ HY1.out) (fun hHeld2 => ?_)
        clear hK K
        refine wpAnyH_done (by kernel_rfl) ?_ _
        refine NoPanic.normal ?_
        clear hHeld hHeld1 hHeld2 HKP0
        go_wp2_with fail
        have HKP1 : Hid (∀ (DD : Dv) (W : World), Hv w No [devA c DD, devA d D, blkA P5 43 #[.int .i64 a, .int .i64 b]] W → W.cell? ⟨P5, 1, none⟩ = some (.int .i64 b)) := fun DD W hv => by simpa using (hv.blk (i := 2) rfl).cell 1
        have e1 := HKP1.out _ _ HY1.out
        refine wp_region_noPanic ?_
        refine wp_region_held_drew (S := (fun W => W.cell? ⟨P5, 1, none⟩ = some (.int .i64 b))) (by kernel_rfl) e1 (fun hHeld => ?_)
        clear e1
        refine wpAnyH_take (i := 0) (v := ?vt0) rfl (by kernel_rfl) (by kernel_rfl) (by kernel_rfl) (fun _ _ _ h => h) (Or.inl ⟨by rfl, ?hyt0⟩) (by assumption) ?restt0
        case hyt0 =>
          intro w hSw
          (try dsimp only at hSw)
          go_simp
          try with_reducible rfl
        try simp only [Act.put, List.getElem_toArray, List.getElem_cons_zero, List.setIfInBounds_toArray, List.set_cons_zero, List.set_cons_succ]
        refine wpAnyH_take (i := 1) (v := ?vt1) rfl (by kernel_rfl) (by kernel_rfl) (by kernel_rfl) (fun _ _ _ h => h) (Or.inl ⟨by rfl, ?hyt1⟩) (by assumption) ?restt1
        case hyt1 =>
          intro w hSw
          (try dsimp only at hSw)
          go_simp
          try with_reducible rfl
        try simp only [Act.put, List.getElem_toArray, List.getElem_cons_zero, List.getElem_cons_succ, List.setIfInBounds_toArray, List.set_cons_zero, List.set_cons_succ]
        refine wpAnyH_take (i := 2) (v := ?vt2) rfl (by kernel_rfl) (by kernel_rfl) (by kernel_rfl) (fun _ _ _ h => h) (Or.inl ⟨by rfl, ?hyt2⟩) (by assumption) ?restt2
        case hyt2 =>
          intro w hSw
          (try dsimp only at hSw)
          go_simp
          try with_reducible rfl
        try simp only [Act.put, List.getElem_toArray, List.getElem_cons_zero, List.getElem_cons_succ, List.setIfInBounds_toArray, List.set_cons_zero, List.set_cons_succ]
        refine wpAnyH_ready (rs := [3]) (by kernel_rfl) (by simp) ?_
        refine AllReadyH.cons rfl (fun K hK => ?_) AllReadyH.nil
        go_simp
        refine (mark_any 6 _).mono ?_
        rintro e wm1 ⟨rfl, hb⟩
        rw [show (6 : Int) % 256 = 6 from rfl]
        have HM1 := Lib.hid (HY1.out.drew.still hb)
        clear hb HY1
        refine hK.out _ _ (HKP1.out _ _ HM1.out) (fun hHeld1 => ?_)
        clear hK K
        try simp only [Act.put, List.getElem_toArray, List.getElem_cons_zero, List.getElem_cons_succ, List.setIfInBounds_toArray, List.set_cons_zero, List.set_cons_succ]
        refine wpAnyH_ready (rs := [4]) (by kernel_rfl) (by simp) ?_
        refine AllReadyH.cons rfl (fun K hK => ?_) AllReadyH.nil
        go_simp
        obtain ⟨T, hT, hJ⟩ := Hv.use [devA c D1] _ HM1.out
        refine (write_any b 6 (Lib.hid (by have := HND1.out.olen; omega)) (Lib.hid hT)).mono ?_
        rintro e ww1 ⟨rfl, h5⟩
        obtain ⟨D2, hD⟩ : ∃ y, y = (writeF D1 b 6).2 := ⟨_, rfl⟩
        have HDD2 := Lib.hid hD
        have HND2 : Hid (Inv n (k + 1 + 1) D2) := by show Inv _ _ _; rw [hD]; exact HND1.out.write (by decide)
        have HY2 : Hid (Hv w No [devA c D2, devA d D, blkA P5 43 #[.int .i64 a, .int .i64 b]] ww1) := by rw [hD]; exact hJ _ _ h5
        clear h5 hT hJ HM1 hD
        refine hK.out _ _ (HKP1.out _ _ HY2.out) (fun hHeld2 => ?_)
        clear hK K
        refine wpAnyH_done (by kernel_rfl) ?_ _
        refine NoPanic.normal ?_
        clear hHeld hHeld1 hHeld2 HKP1
        have HY3 : Hid (Hv w No [devA d D, devA c D2, blkA P5 43 #[.int .i64 a, .int .i64 b]] ww1) := HY2.out.pick [1, 0, 2]
        clear HY2
        go_wp2_with fail
        have HKP2 : Hid (∀ (DD : Dv) (W : World), Hv w No [devA d DD, devA c D2, blkA P5 43 #[.int .i64 a, .int .i64 b]] W → W.cell? ⟨P5, 1, none⟩ = some (.int .i64 b)) := fun DD W hv => by simpa using (hv.blk (i := 2) rfl).cell 1
        have e1 := HKP2.out _ _ HY3.out
        refine wp_region_noPanic ?_
        refine wp_region_held_drew (S := (fun W => W.cell? ⟨P5, 1, none⟩ = some (.int .i64 b))) (by kernel_rfl) e1 (fun hHeld => ?_)
        clear e1
        refine wpAnyH_take (i := 0) (v := ?vu0) rfl (by kernel_rfl) (by kernel_rfl) (by kernel_rfl) (fun _ _ _ h => h) (Or.inl ⟨by rfl, ?hyu0⟩) (by assumption) ?restu0
        case hyu0 =>
          intro w hSw
          (try dsimp only at hSw)
          go_simp
          try with_reducible rfl
        try simp only [Act.put, List.getElem_toArray, List.getElem_cons_zero, List.setIfInBounds_toArray, List.set_cons_zero, List.set_cons_succ]
        refine wpAnyH_take (i := 1) (v := ?vu1) rfl (by kernel_rfl) (by kernel_rfl) (by kernel_rfl) (fun _ _ _ h => h) (Or.inl ⟨by rfl, ?hyu1⟩) (by assumption) ?restu1
        case hyu1 =>
          intro w hSw
          (try dsimp only at hSw)
          go_simp
          try with_reducible rfl
        try simp only [Act.put, List.getElem_toArray, List.getElem_cons_zero, List.getElem_cons_succ, List.setIfInBounds_toArray, List.set_cons_zero, List.set_cons_succ]
        refine wpAnyH_take (i := 2) (v := ?vu2) rfl (by kernel_rfl) (by kernel_rfl) (by kernel_rfl) (fun _ _ _ h => h) (Or.inl ⟨by rfl, ?hyu2⟩) (by assumption) ?restu2
        case hyu2 =>
          intro w hSw
          (try dsimp only at hSw)
          go_simp
          try with_reducible rfl
        try simp only [Act.put, List.getElem_toArray, List.getElem_cons_zero, List.getElem_cons_succ, List.setIfInBounds_toArray, List.set_cons_zero, List.set_cons_succ]
        refine wpAnyH_ready (rs := [3]) (by kernel_rfl) (by simp) ?_
        refine AllReadyH.cons rfl (fun K hK => ?_) AllReadyH.nil
        go_simp
        refine (mark_any 6 _).mono ?_
        rintro e wm2 ⟨rfl, hb⟩
        rw [show (6 : Int) % 256 = 6 from rfl]
        have HM2 := Lib.hid (HY3.out.drew.still hb)
        clear hb HY3
        refine hK.out _ _ (HKP2.out _ _ HM2.out) (fun hHeld1 => ?_)
        clear hK K
        try simp only [Act.put, List.getElem_toArray, List.getElem_cons_zero, List.getElem_cons_succ, List.setIfInBounds_toArray, List.set_cons_zero, List.set_cons_succ]
        refine wpAnyH_ready (rs := [4]) (by kernel_rfl) (by simp) ?_
        refine AllReadyH.cons rfl (fun K hK => ?_) AllReadyH.nil
        go_simp
        obtain ⟨T, hT, hJ⟩ := Hv.use [devA d D] _ HM2.out
        refine (write_any b 6 (Lib.hid (by have := HND.out.olen; omega)) (Lib.hid hT)).mono ?_
        rintro e ww2 ⟨rfl, h5⟩
        obtain ⟨D3, hD⟩ : ∃ y, y = (writeF D b 6).2 := ⟨_, rfl⟩
        have HDD3 := Lib.hid hD
        have HND3 : Hid (Inv n (k + 1) D3) := by show Inv _ _ _; rw [hD]; exact HND.out.write (by decide)
        have HY4 : Hid (Hv w No [devA d D3, devA c D2, blkA P5 43 #[.int .i64 a, .int .i64 b]] ww2) := by rw [hD]; exact hJ _ _ h5
        clear h5 hT hJ HM2 hD
        refine hK.out _ _ (HKP2.out _ _ HY4.out) (fun hHeld2 => ?_)
        clear hK K
        refine wpAnyH_done (by kernel_rfl) ?_ _
        refine NoPanic.normal ?_
        clear hHeld hHeld1 hHeld2 HKP2
        go_wp2_with fail
        have HKP3 : Hid (∀ (DD : Dv) (W : World), Hv w No [devA d DD, devA c D2, blkA P5 43 #[.int .i64 a, .int .i64 b]] W → W.cell? ⟨P5, 0, none⟩ = some (.int .i64 a)) := fun DD W hv => by simpa using (hv.blk (i := 2) rfl).cell 0
        have e1 := HKP3.out _ _ HY4.out
        refine wp_region_noPanic ?_
        refine wp_region_held_drew (S := (fun W => W.cell? ⟨P5, 0, none⟩ = some (.int .i64 a))) (by kernel_rfl) e1 (fun hHeld => ?_)
        clear e1
        refine wpAnyH_take (i := 0) (v := ?vv0) rfl (by kernel_rfl) (by kernel_rfl) (by kernel_rfl) (fun _ _ _ h => h) (Or.inl ⟨by rfl, ?hyv0⟩) (by assumption) ?restv0
        case hyv0 =>
          intro w hSw
          (try dsimp only at hSw)
          go_simp
          try with_reducible rfl
        try simp only [Act.put, List.getElem_toArray, List.getElem_cons_zero, List.setIfInBounds_toArray, List.set_cons_zero, List.set_cons_succ]
        refine wpAnyH_take (i := 1) (v := ?vv1) rfl (by kernel_rfl) (by kernel_rfl) (by kernel_rfl) (fun _ _ _ h => h) (Or.inl ⟨by rfl, ?hyv1⟩) (by assumption) ?restv1
        case hyv1 =>
          intro w hSw
          (try dsimp only at hSw)
          go_simp
          try with_reducible rfl
        try simp only [Act.put, List.getElem_toArray, List.getElem_cons_zero, List.getElem_cons_succ, List.setIfInBounds_toArray, List.set_cons_zero, List.set_cons_succ]
        refine wpAnyH_take (i := 2) (v := ?vv2) rfl (by kernel_rfl) (by kernel_rfl) (by kernel_rfl) (fun _ _ _ h => h) (Or.inl ⟨by rfl, ?hyv2⟩) (by assumption) ?restv2
        case hyv2 =>
          intro w hSw
          (try dsimp only at hSw)
          go_simp
          try with_reducible rfl
        try simp only [Act.put, List.getElem_toArray, List.getElem_cons_zero, List.getElem_cons_succ, List.setIfInBounds_toArray, List.set_cons_zero, List.set_cons_succ]
        refine wpAnyH_ready (rs := [3]) (by kernel_rfl) (by simp) ?_
        refine AllReadyH.cons rfl (fun K hK => ?_) AllReadyH.nil
        go_simp
        refine (mark_any 5 _).mono ?_
        rintro e wm3 ⟨rfl, hb⟩
        rw [show (5 : Int) % 256 = 5 from rfl]
        have HM3 := Lib.hid (HY4.out.drew.still hb)
        clear hb HY4
        refine hK.out _ _ (HKP3.out _ _ HM3.out) (fun hHeld1 => ?_)
        clear hK K
        try simp only [Act.put, List.getElem_toArray, List.getElem_cons_zero, List.getElem_cons_succ, List.setIfInBounds_toArray, List.set_cons_zero, List.set_cons_succ]
        refine wpAnyH_ready (rs := [4]) (by kernel_rfl) (by simp) ?_
        refine AllReadyH.cons rfl (fun K hK => ?_) AllReadyH.nil
        go_simp
        obtain ⟨T, hT, hJ⟩ := Hv.use [devA d D3] _ HM3.out
        refine (write_any a 5 (Lib.hid (by have := HND3.out.olen; omega)) (Lib.hid hT)).mono ?_
        rintro e ww3 ⟨rfl, h5⟩
        obtain ⟨D4, hD⟩ : ∃ y, y = (writeF D3 a 5).2 := ⟨_, rfl⟩
        have HDD4 := Lib.hid hD
        have HND4 : Hid (Inv n (k + 1 + 1) D4) := by show Inv _ _ _; rw [hD]; exact HND3.out.write (by decide)
        have HY5 : Hid (Hv w No [devA d D4, devA c D2, blkA P5 43 #[.int .i64 a, .int .i64 b]] ww3) := by rw [hD]; exact hJ _ _ h5
        clear h5 hT hJ HM3 hD
        refine hK.out _ _ (HKP3.out _ _ HY5.out) (fun hHeld2 => ?_)
        clear hK K
        refine wpAnyH_done (by kernel_rfl) ?_ _
        refine NoPanic.normal ?_
        clear hHeld hHeld1 hHeld2 HKP3
        have HY6 : Hid (Hv w No [devA c D2, devA d D4, blkA P5 43 #[.int .i64 a, .int .i64 b]] ww3) := HY5.out.pick [1, 0, 2]
        clear HY5
        have HEQ : Hid ((flushD D2).firm = (flushD D4).firm) := by
          show _ = _
          rw [HDD2.out, HDD1.out, HDD4.out, HDD3.out]
          exact flush_comm HN.out HAB.out
        go_wp2_with fail
        obtain ⟨T, hT, hJ⟩ := Hv.use [devA c D2] _ HY6.out
        refine (flush_any (Lib.hid (by have := HND2.out.olen; omega)) (Lib.hid HND2.out.ok) (Lib.hid hT)).mono ?_
        rintro e w20 ⟨rfl, h5⟩
        rw [HND2.out.flushF] at h5 ⊢
        have HF1 : Hid (Hv w No [devA d D4, devA c (flushD D2), blkA P5 43 #[.int .i64 a, .int .i64 b]] w20) := (hJ _ _ h5).pick [1, 0, 2]
        clear h5 hT hJ HY6
        go_wp2_with fail
        obtain ⟨T, hT, hJ⟩ := Hv.use [devA d D4] _ HF1.out
        refine (flush_any (Lib.hid (by have := HND4.out.olen; omega)) (Lib.hid HND4.out.ok) (Lib.hid hT)).mono ?_
        rintro e w21 ⟨rfl, h5⟩
        rw [HND4.out.flushF] at h5 ⊢
        obtain ⟨E, hE⟩ : ∃ y, y = flushD D2 := ⟨_, rfl⟩
        obtain ⟨F, hF⟩ : ∃ y, y = flushD D4 := ⟨_, rfl⟩
        have HF2 : Hid (Hv w No [devA c E, devA d F, blkA P5 43 #[.int .i64 a, .int .i64 b]] w21) := by rw [hE, hF]; exact (hJ _ _ h5).pick [1, 0, 2]
        clear h5 hT hJ HF1
        have HNE : Hid (Inv n (k + 10) E) := by show Inv _ _ _; rw [hE]; exact ⟨HND2.out.flushD.plan, HND2.out.flushD.np, HND2.out.flushD.ok, HND2.out.flushD.okb, HND2.out.flushD.flen, Nat.zero_le _⟩
        have HNF : Hid (Inv n (k + 10) F) := by show Inv _ _ _; rw [hF]; exact ⟨HND4.out.flushD.plan, HND4.out.flushD.np, HND4.out.flushD.ok, HND4.out.flushD.okb, HND4.out.flushD.flen, Nat.zero_le _⟩
        have HEF : Hid ((decide (E.firm = F.firm) && decide (E.opn = F.opn)) = true) := by
          show _ = _
          rw [decide_eq_true (by (first | (rw [hE, hF]; done) | (rw [hE, hF]; exact HEQ.out))), decide_eq_true (by (first | (rw [hE, hF]; done) | (rw [hE, hF]; rfl)))]
          rfl
        have HFO : Hid (F.opn = []) := by show _ = _; rw [hF]; rfl
        clear hE hF HEQ
        go_wp2_with fail
        obtain ⟨T, hT, _⟩ := Hv.use [devA c E, devA d F] _ HF2.out
        refine (same_any (Lib.hid HNE.out.okb) (Lib.hid HNF.out.okb) (Lib.hid (by have := HNE.out.olen; have := HNE.out.flen; omega)) (Lib.hid HNE.out.plan) (Lib.hid HNF.out.plan) (Lib.hid hT)).mono ?_
        rintro e w22 ⟨rfl, hb⟩
        rw [HEF.out]
        have HF3 : Hid (Hv w No [devA d F] w22) := (HF2.out.still hb).pick [1]
        clear hb hT HF2
        go_wp2_with fail
        obtain ⟨T, hT, _⟩ := Hv.use [devA d F] [] HF3.out
        refine (copy_any (Lib.hid ⟨by intro e; have := HNF.out.flen; rw [e] at this; simp at this; omega, by have := HNF.out.flen; omega⟩) (Lib.hid (by have := HNF.out.olen; omega)) (Lib.hid HNF.out.np) (Lib.hid hT)).mono ?_
        rintro e w23 ⟨x2, rfl, h9⟩
        have HF4 : Hid (Hv w No [devA d F, devA x2 F] w23) := (HF3.out.add h9).pick [1, 0]
        clear h9 hT HF3
        go_wp2_with fail
        obtain ⟨T, hT, hJ⟩ := Hv.use [devA d F] _ HF4.out
        refine (flush_any (Lib.hid (by have := HNF.out.olen; omega)) (Lib.hid HNF.out.ok) (Lib.hid hT)).mono ?_
        rintro e w24 ⟨rfl, h5⟩
        rw [HNF.out.flushF, flush_twice HFO.out] at h5
        rw [HNF.out.flushF]
        have HF5 : Hid (Hv w No [devA x2 F, devA d F] w24) := (hJ _ _ h5).pick [1, 0]
        clear h5 hT hJ HF4
        go_wp2_with fail
        obtain ⟨T, hT, _⟩ := Hv.use [devA x2 F, devA d F] [] HF5.out
        refine (same_any (Lib.hid HNF.out.okb) (Lib.hid HNF.out.okb) (Lib.hid (by have := HNF.out.olen; have := HNF.out.flen; omega)) (Lib.hid HNF.out.plan) (Lib.hid HNF.out.plan) (Lib.hid hT)).mono ?_
        rintro e w25 ⟨rfl, hb⟩
        rw [show (decide (F.firm = F.firm) && decide (F.opn = F.opn)) = true by rw [decide_eq_true rfl, decide_eq_true rfl]; rfl]
        have HZ := Lib.hid (HF5.out.still hb)
        clear hb hT HF5
        go_wp2_with fail
        refine (awake_any _).mono ?_
        rintro e w30 ⟨rfl, hb⟩
        have HB := Lib.hid (HZ.out.still hb).below
        clear hb
        go_wp2
        go_ret
        exact ⟨rfl, HB.out⟩
end Go.Proofs.Ytbfmgdkiigkioaa

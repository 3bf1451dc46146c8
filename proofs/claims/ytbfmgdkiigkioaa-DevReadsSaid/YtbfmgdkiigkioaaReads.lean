/- The walk of DevReads: its beginning, and its loop. -/
import Derived.Test.YtbfmgdkiigkioaaReadsP
import Derived.Test.YtbfmgdkiigkioaaNil
namespace Go.Proofs.Ytbfmgdkiigkioaa
open Go.RowKit Go.LawEnd

set_option maxRecDepth 100000 in
set_option maxHeartbeats 6400000 in
theorem reads_bad (A : Option Addr) (c : Nat) (m : Int) (l : List Cl) (a b : Int) (w : World) (hbad : Hid (¬ (1 ≤ m ∧ m ≤ 40 ∧ l.length ≤ 80))) :
    Calls Try.prog 4 #[.int .i64 m, .slice A l.length c, .agg #[.int .i64 a, .int .i64 b]] w (Yes w) := by
  obtain ⟨L, hL⟩ : ∃ L, L = l.length := ⟨_, rfl⟩
  rw [← hL] at hbad ⊢
  clear hL
  have hb0 := hbad.out
  have HV : Hid (Hv w No [] (w.alloc (.cells #[.int .i64 a, .int .i64 b] 43))) := (Hv.begin w).alloc_ _
  by_cases h1 : m < 1
  · have d1 : decide (m < 1) = true := decide_eq_true h1
    clear hb0 hbad
    go_enter Try.func4, Try.ntmps4
    go_wp2_with fail
    refine (awake_any _).mono ?_
    rintro e w2 ⟨rfl, hb⟩
    have HB := Lib.hid (HV.out.still hb).below
    clear hb HV
    go_wp2
    go_ret
    exact ⟨rfl, HB.out⟩
  · have d1 : decide (m < 1) = false := decide_eq_false h1
    by_cases h2 : 40 < m
    · have d2 : decide (40 < m) = true := decide_eq_true h2
      clear hb0 hbad
      go_enter Try.func4, Try.ntmps4
      go_wp2_with fail
      refine (awake_any _).mono ?_
      rintro e w2 ⟨rfl, hb⟩
      have HB := Lib.hid (HV.out.still hb).below
      clear hb HV
      go_wp2
      go_ret
      exact ⟨rfl, HB.out⟩
    · have d2 : decide (40 < m) = false := decide_eq_false h2
      have d3 : decide ((L : Int) ≤ 80) = false := decide_eq_false (by omega)
      clear hb0 hbad
      go_enter Try.func4, Try.ntmps4
      go_wp2_with fail
      refine (few_any _ _ _ _).mono ?_
      rintro e w2 ⟨rfl, rfl⟩
      rw [d3]
      go_wp2_with fail
      refine (awake_any _).mono ?_
      rintro e w2 ⟨rfl, hb⟩
      have HB := Lib.hid (HV.out.still hb).below
      clear hb HV
      go_wp2
      go_ret
      exact ⟨rfl, HB.out⟩
set_option maxRecDepth 100000 in
set_option maxHeartbeats 6400000 in
theorem reads_good (A : Option Addr) (c n : Nat) (l : List Cl) (a b : Int) (w : World) (hg : Hid (1 ≤ n ∧ n ≤ 40 ∧ l.length ≤ 80)) (hA : Hid (ClArg w A l)) :
    Calls Try.prog 4 #[.int .i64 (n : Int), .slice A l.length c, .agg #[.int .i64 a, .int .i64 b]] w (Yes w) := by
  obtain ⟨L, hL⟩ : ∃ L, L = l.length := ⟨_, rfl⟩
  have HL := Lib.hid hL
  rw [← hL] at hg ⊢
  clear hL
  obtain ⟨g1, g2, g3⟩ := hg.out
  have d1 : decide ((n : Int) < 1) = false := decide_eq_false (by omega)
  have d2 : decide (40 < (n : Int)) = false := decide_eq_false (by omega)
  have d3 : decide ((L : Int) ≤ 80) = true := decide_eq_true (by omega)
  go_enter Try.func4, Try.ntmps4
  go_wp2_with fail
  refine (few_any _ _ _ _).mono ?_
  rintro e w2 ⟨rfl, rfl⟩
  rw [d3]
  obtain ⟨P5, hP5⟩ : ∃ y, y = w.heap.size := ⟨_, rfl⟩
  obtain ⟨V, hV⟩ : ∃ y, y = w.alloc (.cells #[.int .i64 a, .int .i64 b] 43) := ⟨_, rfl⟩
  have hv := (Hv.begin w).alloc 43 #[.int .i64 a, .int .i64 b]
  rw [← hV, ← hP5] at hv
  rw [← hV, ← hP5]
  have HV := Lib.hid hv
  clear hv hV hP5
  go_wp2_with fail
  refine (new_yes n _ g1 (by omega)).mono ?_
  rintro e w1 ⟨d, rfl, h1⟩
  have H0 : Hid (Hv w No [devA d (D0 n), blkA P5 43 #[.int .i64 a, .int .i64 b]] w1) := HV.out.add h1
  clear h1 HV
  go_wp2_with fail
  go_loopw [9] (fun i wr => ∃ k : Nat, k ≤ L ∧ i = .int .i64 k ∧ ∃ D, Inv n k D ∧ Hv w No [devA d D, blkA P5 43 #[.int .i64 a, .int .i64 b]] wr) (fun i _ => L - (intOf i).toNat)
  case atStart => exact ⟨0, by omega, rfl, _, inv_new n, H0.out⟩
  case round =>
    clear H0
    obtain ⟨k, hk, rfl, D, hinv, hi⟩ := hrel
    have HI := Lib.hid hi
    have HN := Lib.hid hinv
    clear hi hinv
    by_cases hkl : k < L
    · have hkl' : k < l.length := by rw [← HL.out]; exact hkl
      have HAR : Hid (∀ W, Below w.heap.size w W → ∃ b off, A = some ⟨b, off, none⟩ ∧ W.cell? ⟨b, off + k * 3, none⟩ = some (.int .i64 l[k].1) ∧ W.cell? ⟨b, off + k * 3 + 1, none⟩ = some (.int .i64 l[k].2.1) ∧ W.cell? ⟨b, off + k * 3 + 2, none⟩ = some (.int .i64 l[k].2.2)) := fun W hW => by
        obtain ⟨b, off, e, _, h⟩ := hA.out.below hW k hkl'
        exact ⟨b, off, e, h⟩
      obtain ⟨y, hy⟩ : ∃ y, y = l[k] := ⟨_, rfl⟩
      rw [← hy] at HAR
      clear hy hkl'
      obtain ⟨ask, s, z⟩ := y
      obtain ⟨ab, ao, rfl, c0, c1, c2⟩ := HAR.out wr HI.out.below
      have HARS : Hid (∀ W, Below w.heap.size w W → W.cell? ⟨ab, ao + k * 3, none⟩ = some (.int .i64 ask) ∧ W.cell? ⟨ab, ao + k * 3 + 1, none⟩ = some (.int .i64 s) ∧ W.cell? ⟨ab, ao + k * 3 + 2, none⟩ = some (.int .i64 z)) := fun W hW => by
        obtain ⟨b', o', e, h⟩ := HAR.out W hW
        injection e with e
        injection e with e1 e2
        subst e1
        subst e2
        exact h
      clear HAR
      by_cases hw : ask = 0 ∨ ask = 2
      · have HW := Lib.hid hw
        rcases hw with rfl | rfl
        all_goals go_wp2_with fail
        all_goals refine wp_region_noPanic ?_
        · refine wp_region_held_drew (S := (fun W => W.cell? ⟨ab, ao + k * 3, none⟩ = some (.int .i64 0) ∧ W.cell? ⟨ab, ao + k * 3 + 1, none⟩ = some (.int .i64 s) ∧ W.cell? ⟨ab, ao + k * 3 + 2, none⟩ = some (.int .i64 z))) (by kernel_rfl) ⟨c0, c1, c2⟩ (fun hHeld => ?_)
          refine wpAnyH_take (i := 0) (v := ?vp0) rfl (by kernel_rfl) (by kernel_rfl) (by kernel_rfl) (fun _ _ _ h => h) (Or.inl ⟨by rfl, ?hyp0⟩) (by assumption) ?restp0
          case hyp0 =>
            intro w hSw
            (try dsimp only at hSw)
            go_simp
            try with_reducible rfl
          try simp only [Act.put, List.getElem_toArray, List.getElem_cons_zero, List.setIfInBounds_toArray, List.set_cons_zero, List.set_cons_succ]
          refine wpAnyH_take (i := 1) (v := ?vp1) rfl (by kernel_rfl) (by kernel_rfl) (by kernel_rfl) (fun _ _ _ h => h) (Or.inl ⟨by rfl, ?hyp1⟩) (by assumption) ?restp1
          case hyp1 =>
            intro w hSw
            (try dsimp only at hSw)
            go_simp
            try with_reducible rfl
          try simp only [Act.put, List.getElem_toArray, List.getElem_cons_zero, List.getElem_cons_succ, List.setIfInBounds_toArray, List.set_cons_zero, List.set_cons_succ]
          refine wpAnyH_take (i := 3) (v := ?vp3) rfl (by kernel_rfl) (by kernel_rfl) (by kernel_rfl) (fun _ _ _ h => h) (Or.inl ⟨by rfl, ?hyp3⟩) (by assumption) ?restp3
          case hyp3 =>
            intro w hSw
            (try dsimp only at hSw)
            go_simp
            try with_reducible rfl
          try simp only [Act.put, List.getElem_toArray, List.getElem_cons_zero, List.getElem_cons_succ, List.setIfInBounds_toArray, List.set_cons_zero, List.set_cons_succ]
          refine wpAnyH_take (i := 4) (v := ?vp4) rfl (by kernel_rfl) (by kernel_rfl) (by kernel_rfl) (fun _ _ _ h => h) (Or.inl ⟨by rfl, ?hyp4⟩) (by assumption) ?restp4
          case hyp4 =>
            intro w hSw
            (try dsimp only at hSw)
            go_simp
            try with_reducible rfl
          try simp only [Act.put, List.getElem_toArray, List.getElem_cons_zero, List.getElem_cons_succ, List.setIfInBounds_toArray, List.set_cons_zero, List.set_cons_succ]
          refine wpAnyH_take (i := 5) (v := ?vp5) rfl (by kernel_rfl) (by kernel_rfl) (by kernel_rfl) (fun _ _ _ h => h) (Or.inl ⟨by rfl, ?hyp5⟩) (by assumption) ?restp5
          case hyp5 =>
            intro w hSw
            (try dsimp only at hSw)
            go_simp
            try with_reducible rfl
          try simp only [Act.put, List.getElem_toArray, List.getElem_cons_zero, List.getElem_cons_succ, List.setIfInBounds_toArray, List.set_cons_zero, List.set_cons_succ]
          refine wpAnyH_take (i := 6) (v := ?vp6) rfl (by kernel_rfl) (by kernel_rfl) (by kernel_rfl) (fun _ _ _ h => h) (Or.inl ⟨by rfl, ?hyp6⟩) (by assumption) ?restp6
          case hyp6 =>
            intro w hSw
            (try dsimp only at hSw)
            go_simp
            try with_reducible rfl
          try simp only [Act.put, List.getElem_toArray, List.getElem_cons_zero, List.getElem_cons_succ, List.setIfInBounds_toArray, List.set_cons_zero, List.set_cons_succ]
          refine wpAnyH_ready (rs := [2]) (by kernel_rfl) (by simp) ?_
          refine AllReadyH.cons rfl (fun K hK => ?_) AllReadyH.nil
          go_simp
          refine (rnew_any n (by omega) _).mono ?_
          rintro e W1 ⟨r, rfl, h1⟩
          have HX1 : Hid (Hv w No [devA d D, refA r (D0 n), blkA P5 43 #[.int .i64 a, .int .i64 b]] W1) := (HI.out.drew.add h1).pick [1, 0, 2]
          clear h1 c0 c1 c2
          refine hK.out _ _ (HARS.out _ HX1.out.below) (fun hHeld1 => ?_)
          clear hK K
          try simp only [Act.put, List.getElem_toArray, List.getElem_cons_zero, List.getElem_cons_succ, List.setIfInBounds_toArray, List.set_cons_zero, List.set_cons_succ]
          refine wpAnyH_ready (rs := [7]) (by kernel_rfl) (by simp) ?_
          refine AllReadyH.cons rfl (fun K hK => ?_) AllReadyH.nil
          go_simp
          obtain ⟨T1, hT1, hJ1⟩ := Hv.use [devA d D, refA r (D0 n)] _ HX1.out
          refine (does_write s z (z % 256) (Lib.hid rfl) (Lib.hid (by have := HN.out.olen; omega)) (Lib.hid (Nat.zero_le _)) (Lib.hid hT1)).mono ?_
          rintro e W2 ⟨rfl, h2⟩
          have HX2 : Hid (Hv w No [devA d (writeF D s (z % 256)).2, blkA P5 43 #[.int .i64 a, .int .i64 b]] W2) := (hJ1 _ _ h2).pick [0, 2]
          have HN2 : Hid (Inv n (k + 1) (writeF D s (z % 256)).2) := HN.out.write (by omega)
          clear h2 hT1 hJ1 HX1
          refine hK.out _ _ (HARS.out _ HX2.out.below) (fun hHeld2 => ?_)
          clear hK K
          try simp only [Act.put, List.getElem_toArray, List.getElem_cons_zero, List.getElem_cons_succ, List.setIfInBounds_toArray, List.set_cons_zero, List.set_cons_succ]
          refine wpAnyH_done (by kernel_rfl) ?_ _
          refine NoPanic.normal ?_
          clear hHeld hHeld1 hHeld2 HARS
          go_wp2
          go_roundw
          case rel => exact ⟨k + 1, by omega, rfl, _, HN2.out, HX2.out⟩
          case measure => simp [intOf]; omega
        · refine wp_region_held_drew (S := (fun W => W.cell? ⟨ab, ao + k * 3, none⟩ = some (.int .i64 2) ∧ W.cell? ⟨ab, ao + k * 3 + 1, none⟩ = some (.int .i64 s) ∧ W.cell? ⟨ab, ao + k * 3 + 2, none⟩ = some (.int .i64 z))) (by kernel_rfl) ⟨c0, c1, c2⟩ (fun hHeld => ?_)
          refine wpAnyH_take (i := 0) (v := ?vf0) rfl (by kernel_rfl) (by kernel_rfl) (by kernel_rfl) (fun _ _ _ h => h) (Or.inl ⟨by rfl, ?hyf0⟩) (by assumption) ?restf0
          case hyf0 =>
            intro w hSw
            (try dsimp only at hSw)
            go_simp
            try with_reducible rfl
          try simp only [Act.put, List.getElem_toArray, List.getElem_cons_zero, List.setIfInBounds_toArray, List.set_cons_zero, List.set_cons_succ]
          refine wpAnyH_take (i := 1) (v := ?vf1) rfl (by kernel_rfl) (by kernel_rfl) (by kernel_rfl) (fun _ _ _ h => h) (Or.inl ⟨by rfl, ?hyf1⟩) (by assumption) ?restf1
          case hyf1 =>
            intro w hSw
            (try dsimp only at hSw)
            go_simp
            try with_reducible rfl
          try simp only [Act.put, List.getElem_toArray, List.getElem_cons_zero, List.getElem_cons_succ, List.setIfInBounds_toArray, List.set_cons_zero, List.set_cons_succ]
          refine wpAnyH_take (i := 3) (v := ?vf3) rfl (by kernel_rfl) (by kernel_rfl) (by kernel_rfl) (fun _ _ _ h => h) (Or.inl ⟨by rfl, ?hyf3⟩) (by assumption) ?restf3
          case hyf3 =>
            intro w hSw
            (try dsimp only at hSw)
            go_simp
            try with_reducible rfl
          try simp only [Act.put, List.getElem_toArray, List.getElem_cons_zero, List.getElem_cons_succ, List.setIfInBounds_toArray, List.set_cons_zero, List.set_cons_succ]
          refine wpAnyH_take (i := 4) (v := ?vf4) rfl (by kernel_rfl) (by kernel_rfl) (by kernel_rfl) (fun _ _ _ h => h) (Or.inl ⟨by rfl, ?hyf4⟩) (by assumption) ?restf4
          case hyf4 =>
            intro w hSw
            (try dsimp only at hSw)
            go_simp
            try with_reducible rfl
          try simp only [Act.put, List.getElem_toArray, List.getElem_cons_zero, List.getElem_cons_succ, List.setIfInBounds_toArray, List.set_cons_zero, List.set_cons_succ]
          refine wpAnyH_take (i := 5) (v := ?vf5) rfl (by kernel_rfl) (by kernel_rfl) (by kernel_rfl) (fun _ _ _ h => h) (Or.inl ⟨by rfl, ?hyf5⟩) (by assumption) ?restf5
          case hyf5 =>
            intro w hSw
            (try dsimp only at hSw)
            go_simp
            try with_reducible rfl
          try simp only [Act.put, List.getElem_toArray, List.getElem_cons_zero, List.getElem_cons_succ, List.setIfInBounds_toArray, List.set_cons_zero, List.set_cons_succ]
          refine wpAnyH_take (i := 6) (v := ?vf6) rfl (by kernel_rfl) (by kernel_rfl) (by kernel_rfl) (fun _ _ _ h => h) (Or.inl ⟨by rfl, ?hyf6⟩) (by assumption) ?restf6
          case hyf6 =>
            intro w hSw
            (try dsimp only at hSw)
            go_simp
            try with_reducible rfl
          try simp only [Act.put, List.getElem_toArray, List.getElem_cons_zero, List.getElem_cons_succ, List.setIfInBounds_toArray, List.set_cons_zero, List.set_cons_succ]
          refine wpAnyH_ready (rs := [2]) (by kernel_rfl) (by simp) ?_
          refine AllReadyH.cons rfl (fun K hK => ?_) AllReadyH.nil
          go_simp
          refine (rnew_any n (by omega) _).mono ?_
          rintro e W1 ⟨r, rfl, h1⟩
          have HX1 : Hid (Hv w No [devA d D, refA r (D0 n), blkA P5 43 #[.int .i64 a, .int .i64 b]] W1) := (HI.out.drew.add h1).pick [1, 0, 2]
          clear h1 c0 c1 c2
          refine hK.out _ _ (HARS.out _ HX1.out.below) (fun hHeld1 => ?_)
          clear hK K
          try simp only [Act.put, List.getElem_toArray, List.getElem_cons_zero, List.getElem_cons_succ, List.setIfInBounds_toArray, List.set_cons_zero, List.set_cons_succ]
          refine wpAnyH_ready (rs := [7]) (by kernel_rfl) (by simp) ?_
          refine AllReadyH.cons rfl (fun K hK => ?_) AllReadyH.nil
          go_simp
          obtain ⟨T1, hT1, hJ1⟩ := Hv.use [devA d D, refA r (D0 n)] _ HX1.out
          refine (does_flush s z (Lib.hid (by have := HN.out.olen; omega)) (Lib.hid (Nat.zero_le _)) (Lib.hid HN.out.ok) (Lib.hid (inv_new n).ok) (Lib.hid hT1)).mono ?_
          rintro e W2 ⟨rfl, h2⟩
          have HX2 : Hid (Hv w No [devA d (flushF D).2, blkA P5 43 #[.int .i64 a, .int .i64 b]] W2) := (hJ1 _ _ h2).pick [0, 2]
          have HN2 : Hid (Inv n (k + 1) (flushF D).2) := HN.out.flush
          clear h2 hT1 hJ1 HX1
          refine hK.out _ _ (HARS.out _ HX2.out.below) (fun hHeld2 => ?_)
          clear hK K
          try simp only [Act.put, List.getElem_toArray, List.getElem_cons_zero, List.getElem_cons_succ, List.setIfInBounds_toArray, List.set_cons_zero, List.set_cons_succ]
          refine wpAnyH_done (by kernel_rfl) ?_ _
          refine NoPanic.normal ?_
          clear hHeld hHeld1 hHeld2 HARS
          go_wp2
          go_roundw
          case rel => exact ⟨k + 1, by omega, rfl, _, HN2.out, HX2.out⟩
          case measure => simp [intOf]; omega
      · have a0 : (ask == 0) = false := by rw [beq_eq_false_iff_ne]; omega
        have a2 : (ask == 2) = false := by rw [beq_eq_false_iff_ne]; omega
        have HN' : Hid (Inv n (k + 1) D) := HN.out.succ
        clear hw
        go_wp2
        go_roundw
        case rel => exact ⟨k + 1, by omega, rfl, _, HN'.out, HI.out⟩
        case measure => simp [intOf]; omega
    · obtain rfl : k = L := by omega
      clear hkl hk hA HL
      have HLB : Hid (D.opn.length ≤ 100000) := by show _ ≤ _; have := HN.out.olen; omega
      have hcb : wr.cell? ⟨P5, 1, none⟩ = some (.int .i64 b) := by simpa using (HI.out.blk (i := 1) rfl).cell 1
      have hlb := laid_bl
      have hz := zero34
      have hml := markC_length
      go_wp2_with fail
      obtain ⟨T, hT, hJ⟩ := Hv.use [devA d D] _ HI.out
      refine (read_any b HLB (Lib.hid hT)).mono ?_
      rintro e w3 ⟨rfl, h3⟩
      obtain ⟨vb, hvb⟩ : ∃ v, v = (readF D b).1 := ⟨_, rfl⟩
      obtain ⟨eb, heb⟩ : ∃ v, v = (readF D b).2.1 := ⟨_, rfl⟩
      have hD3 : (readF D b).2.2 = D := by rw [HN.out.readF]; split <;> rfl
      have HRB : Hid (vb = (if there D b = true then shownF D b else 0) ∧ eb = if there D b = true then 0 else 10) := by
        show _ ∧ _
        rw [hvb, heb, HN.out.readF]
        split <;> exact ⟨rfl, rfl⟩
      rw [hD3] at h3
      rw [← hvb, ← heb]
      have HV3 : Hid (Hv w No [devA d D, blkA P5 43 #[.int .i64 a, .int .i64 b]] w3) := hJ _ _ h3
      clear h3 hT hJ HI hcb hvb heb hD3
      go_wp2_with fail
      obtain ⟨P10, hP⟩ : ∃ y, y = w3.heap.size := ⟨_, rfl⟩
      obtain ⟨W10, hW⟩ : ∃ y, y = w3.alloc (.cells (markC vb).toArray 34) := ⟨_, rfl⟩
      have hq := HV3.out.alloc 34 (markC vb).toArray
      rw [← hW, ← hP] at hq
      rw [← hW, ← hP]
      have HW10 : Hid (Hv w No [devA d D, blkA P5 43 #[.int .i64 a, .int .i64 b], blkA P10 34 (markC vb).toArray] W10) := hq.pick [1, 2, 0]
      clear hq hW hP HV3
      have HKP : Hid (∀ (D : Dv) (W : World), Hv w No [devA d D, blkA P5 43 #[.int .i64 a, .int .i64 b], blkA P10 34 (markC vb).toArray] W → W.cell? ⟨P5, 0, none⟩ = some (.int .i64 a)) := fun D W hv => by simpa using (hv.blk (i := 1) rfl).cell 0
      have e1 := HKP.out _ _ HW10.out
      refine wp_region_noPanic ?_
      refine wp_region_held_drew (S := (fun W => W.cell? ⟨P5, 0, none⟩ = some (.int .i64 a))) (by kernel_rfl) e1 (fun hHeld => ?_)
      refine wpAnyH_take (i := 0) (v := ?vw0) rfl (by kernel_rfl) (by kernel_rfl) (by kernel_rfl) (fun _ _ _ h => h) (Or.inl ⟨by rfl, ?hyw0⟩) (by assumption) ?restw0
      case hyw0 =>
        intro w hSw
        (try dsimp only at hSw)
        go_simp
        try with_reducible rfl
      try simp only [Act.put, List.getElem_toArray, List.getElem_cons_zero, List.setIfInBounds_toArray, List.set_cons_zero, List.set_cons_succ]
      refine wpAnyH_take (i := 1) (v := ?vw1) rfl (by kernel_rfl) (by kernel_rfl) (by kernel_rfl) (fun _ _ _ h => h) (Or.inl ⟨by rfl, ?hyw1⟩) (by assumption) ?restw1
      case hyw1 =>
        intro w hSw
        (try dsimp only at hSw)
        go_simp
        try with_reducible rfl
      try simp only [Act.put, List.getElem_toArray, List.getElem_cons_zero, List.getElem_cons_succ, List.setIfInBounds_toArray, List.set_cons_zero, List.set_cons_succ]
      refine wpAnyH_take (i := 2) (v := ?vw2) rfl (by kernel_rfl) (by kernel_rfl) (by kernel_rfl) (fun _ _ _ h => h) (Or.inl ⟨by rfl, ?hyw2⟩) (by assumption) ?restw2
      case hyw2 =>
        intro w hSw
        (try dsimp only at hSw)
        go_simp
        try with_reducible rfl
      try simp only [Act.put, List.getElem_toArray, List.getElem_cons_zero, List.getElem_cons_succ, List.setIfInBounds_toArray, List.set_cons_zero, List.set_cons_succ]
      refine wpAnyH_ready (rs := [3]) (by kernel_rfl) (by simp) ?_
      refine AllReadyH.cons rfl (fun K hK => ?_) AllReadyH.nil
      go_simp
      refine (mark_any 201 _).mono ?_
      rintro e w4 ⟨rfl, hb⟩
      rw [show (201 : Int) % 256 = 201 from rfl]
      have HV4 := Lib.hid (HW10.out.drew.still hb)
      clear hb HW10 e1
      refine hK.out _ _ (HKP.out _ _ HV4.out) (fun hHeld1 => ?_)
      clear hK K
      try simp only [Act.put, List.getElem_toArray, List.getElem_cons_zero, List.getElem_cons_succ, List.setIfInBounds_toArray, List.set_cons_zero, List.set_cons_succ]
      refine wpAnyH_ready (rs := [4]) (by kernel_rfl) (by simp) ?_
      refine AllReadyH.cons rfl (fun K hK => ?_) AllReadyH.nil
      go_simp
      obtain ⟨T, hT, hJ⟩ := Hv.use [devA d D] _ HV4.out
      refine (write_any a 201 HLB (Lib.hid hT)).mono ?_
      rintro e w5 ⟨rfl, h5⟩
      rw [HN.out.writeF] at h5 ⊢
      by_cases hth : there D a = true
      · rw [if_pos hth] at h5 ⊢
        obtain ⟨D1, hD1⟩ : ∃ y, y = addD D (a, 201) := ⟨_, rfl⟩
        have HV5 : Hid (Hv w No [devA d D1, blkA P5 43 #[.int .i64 a, .int .i64 b], blkA P10 34 (markC vb).toArray] w5) := by rw [hD1]; exact hJ _ _ h5
        have HTH := Lib.hid hth
        have HD1 := Lib.hid hD1
        clear h5 hT hJ HV4 hD1 hth
        refine hK.out _ _ (HKP.out _ _ HV5.out) (fun hHeld2 => ?_)
        clear hK K
        refine wpAnyH_take (i := 5) (v := ?vw5) rfl (by kernel_rfl) (by kernel_rfl) (by kernel_rfl) (fun _ _ _ h => h) (Or.inl ⟨by rfl, ?hyw5⟩) (by assumption) ?restw5
        case hyw5 =>
          intro w hSw
          (try dsimp only at hSw)
          go_simp
          try with_reducible rfl
        try simp only [Act.put, List.getElem_toArray, List.getElem_cons_zero, List.getElem_cons_succ, List.setIfInBounds_toArray, List.set_cons_zero, List.set_cons_succ]
        refine wpAnyH_done (by kernel_rfl) ?_ _
        refine NoPanic.normal ?_
        clear hHeld hHeld1 hHeld2
        have HN1 : Hid (Inv n (k + 1) D1) := by show Inv _ _ _; rw [HD1.out]; exact HN.out.add HTH.out (by decide)
        have HRA : Hid (readF D1 a = (201, 0, D1)) := by show _ = _; rw [HN1.out.readF, HD1.out, there_add, if_pos HTH.out, shown_add, if_pos rfl]
        have HLB1 : Hid (D1.opn.length ≤ 100000) := by show _ ≤ _; have := HN1.out.olen; omega
        have c5 := HKP.out _ _ HV5.out
        obtain ⟨ha0, ha1⟩ := there_lt HTH.out
        rw [HN.out.flen] at ha1
        have f1 : decide (a < 0) = false := decide_eq_false (by omega)
        have f2 : decide ((n : Int) ≤ a) = false := decide_eq_false (by omega)
        clear ha0 ha1
        go_wp2_with fail
        obtain ⟨T, hT, hJ⟩ := Hv.use [devA d D1] _ HV5.out
        refine (read_any a HLB1 (Lib.hid hT)).mono ?_
        rintro e w6 ⟨rfl, h6⟩
        rw [HRA.out] at h6 ⊢
        have HV6 : Hid (Hv w No [devA d D1, blkA P5 43 #[.int .i64 a, .int .i64 b], blkA P10 34 (markC vb).toArray] w6) := hJ _ _ h6
        clear h6 hT hJ HV5 c5
        have c5 : (w6.alloc (.cells (markC 201).toArray 34)).cell? ⟨P5, 1, none⟩ = some (.int .i64 b) := by simpa using ((HV6.out.alloc_ (.cells (markC 201).toArray 34)).blk (i := 1) rfl).cell 1
        go_wp2_with fail
        obtain ⟨P13, hP⟩ : ∃ y, y = w6.heap.size := ⟨_, rfl⟩
        obtain ⟨W13, hW⟩ : ∃ y, y = w6.alloc (.cells (markC 201).toArray 34) := ⟨_, rfl⟩
        have hq := HV6.out.alloc 34 (markC 201).toArray
        rw [← hW, ← hP] at hq
        rw [← hW, ← hP]
        have HW13 : Hid (Hv w No [devA d D1, blkA P5 43 #[.int .i64 a, .int .i64 b], blkA P10 34 (markC vb).toArray, blkA P13 34 (markC 201).toArray] W13) := hq.pick [1, 2, 3, 0]
        clear hq hW hP HV6
        clear c5
        obtain ⟨T, hT, hJ⟩ := Hv.use [devA d D1] _ HW13.out
        refine (read_any b HLB1 (Lib.hid hT)).mono ?_
        rintro e w7 ⟨rfl, h7⟩
        obtain ⟨v2, hv2⟩ : ∃ v, v = (readF D1 b).1 := ⟨_, rfl⟩
        obtain ⟨e2, he2⟩ : ∃ v, v = (readF D1 b).2.1 := ⟨_, rfl⟩
        have hD7 : (readF D1 b).2.2 = D1 := by rw [HN1.out.readF]; split <;> rfl
        have HRB1 : Hid (v2 = (if there D b = true then shownF D1 b else 0) ∧ e2 = if there D b = true then 0 else 10) := by
          show _ ∧ _
          rw [hv2, he2, HN1.out.readF, show there D1 b = there D b by rw [HD1.out]; rfl]
          split <;> exact ⟨rfl, rfl⟩
        rw [hD7] at h7
        rw [← hv2, ← he2]
        have HV7 : Hid (Hv w No [devA d D1, blkA P5 43 #[.int .i64 a, .int .i64 b], blkA P10 34 (markC vb).toArray, blkA P13 34 (markC 201).toArray] w7) := hJ _ _ h7
        clear h7 hT hJ HW13 hv2 he2 hD7
        go_wp2_with fail
        obtain ⟨P15, hP⟩ : ∃ y, y = w7.heap.size := ⟨_, rfl⟩
        obtain ⟨W15, hW⟩ : ∃ y, y = w7.alloc (.cells (markC v2).toArray 34) := ⟨_, rfl⟩
        have hq := HV7.out.alloc 34 (markC v2).toArray
        rw [← hW, ← hP] at hq
        rw [← hW, ← hP]
        have HW15 : Hid (Hv w No [devA d D1, blkA P5 43 #[.int .i64 a, .int .i64 b], blkA P10 34 (markC vb).toArray, blkA P13 34 (markC 201).toArray, blkA P15 34 (markC v2).toArray] W15) := hq.pick [1, 2, 3, 4, 0]
        clear hq hW hP HV7
        obtain ⟨T, hT, _⟩ := Hv.use [devA d D1] _ HW15.out
        refine (open_any (Lib.hid hT)).mono ?_
        rintro e w8 ⟨rfl, rfl⟩
        obtain ⟨o, ho⟩ : ∃ o, o = D1.opn.length := ⟨_, rfl⟩
        have ho1 : decide ((o : Int) < 1) = false := decide_eq_false (by rw [ho, HD1.out]; simp [addD]; omega)
        rw [← ho]
        clear hT ho
        go_wp2_with fail
        obtain ⟨T, hT, hJ⟩ := Hv.use [devA d D1] _ HW15.out
        refine (flush_any HLB1 (Lib.hid HN1.out.ok) (Lib.hid hT)).mono ?_
        rintro e w9 ⟨rfl, h9⟩
        rw [HN1.out.flushF] at h9 ⊢
        obtain ⟨D2, hD2⟩ : ∃ y, y = flushD D1 := ⟨_, rfl⟩
        have HD2 := Lib.hid hD2
        have HV9 : Hid (Hv w No [devA d D2, blkA P5 43 #[.int .i64 a, .int .i64 b], blkA P10 34 (markC vb).toArray, blkA P13 34 (markC 201).toArray, blkA P15 34 (markC v2).toArray] w9) := by rw [hD2]; exact hJ _ _ h9
        clear h9 hT hJ HW15 hD2
        have HN2 : Hid (Inv n (k + 1) D2) := by show Inv _ _ _; rw [HD2.out]; exact HN1.out.flushD
        have HTH2 : Hid (there D2 a = true) := by show _ = _; rw [HD2.out, there_flush, HD1.out]; exact HTH.out
        have HFA : Hid (firmAt D2 a = 201) := by show _ = _; rw [HD2.out, HD1.out]; exact firm_flush_add HTH.out
        have HRA2 : Hid (readF D2 a = (201, 0, D2)) := by
          show _ = _
          rw [HN2.out.readF, if_pos HTH2.out, show shownF D2 a = firmAt D2 a by rw [HD2.out]; rfl, HFA.out]
        have HLB2 : Hid (D2.opn.length ≤ 100000) := by show _ ≤ _; rw [HD2.out]; exact Nat.zero_le _
        have HO2 : Hid (D2.opn.length = 0) := by show _ = _; rw [HD2.out]; rfl
        have c5 : w9.cell? ⟨P5, 0, none⟩ = some (.int .i64 a) := by simpa using (HV9.out.blk (i := 1) rfl).cell 0
        go_wp2_with fail
        obtain ⟨T, hT, hJ⟩ := Hv.use [devA d D2] _ HV9.out
        refine (read_any a HLB2 (Lib.hid hT)).mono ?_
        rintro e w10 ⟨rfl, h10⟩
        rw [HRA2.out] at h10 ⊢
        have HV10 : Hid (Hv w No [devA d D2, blkA P5 43 #[.int .i64 a, .int .i64 b], blkA P10 34 (markC vb).toArray, blkA P13 34 (markC 201).toArray, blkA P15 34 (markC v2).toArray] w10) := hJ _ _ h10
        clear h10 hT hJ HV9 c5
        have c5 : (w10.alloc (.cells (markC 201).toArray 34)).cell? ⟨P5, 0, none⟩ = some (.int .i64 a) := by simpa using ((HV10.out.alloc_ (.cells (markC 201).toArray 34)).blk (i := 1) rfl).cell 0
        go_wp2_with fail
        obtain ⟨P19, hP⟩ : ∃ y, y = w10.heap.size := ⟨_, rfl⟩
        obtain ⟨W19, hW⟩ : ∃ y, y = w10.alloc (.cells (markC 201).toArray 34) := ⟨_, rfl⟩
        have hq := HV10.out.alloc 34 (markC 201).toArray
        rw [← hW, ← hP] at hq
        rw [← hW, ← hP]
        have HW19 : Hid (Hv w No [devA d D2, blkA P5 43 #[.int .i64 a, .int .i64 b], blkA P10 34 (markC vb).toArray, blkA P13 34 (markC 201).toArray, blkA P15 34 (markC v2).toArray, blkA P19 34 (markC 201).toArray] W19) := hq.pick [1, 2, 3, 4, 5, 0]
        clear hq hW hP HV10
        clear c5
        obtain ⟨T, hT, _⟩ := Hv.use [devA d D2] _ HW19.out
        refine (firm_yes a HTH2 (Lib.hid hT)).mono ?_
        rintro e w11 ⟨rfl, h11⟩
        rw [HFA.out]
        have HV11 := Lib.hid (HW19.out.still h11)
        clear h11 hT HW19
        go_upto_region 21 with (fail)
        obtain ⟨P21, hP⟩ : ∃ y, y = w11.heap.size := ⟨_, rfl⟩
        obtain ⟨W21, hW⟩ : ∃ y, y = w11.alloc (.cells (markC 201).toArray 34) := ⟨_, rfl⟩
        have hq := HV11.out.alloc 34 (markC 201).toArray
        rw [← hW, ← hP] at hq
        rw [← hW, ← hP]
        have HW21 : Hid (Hv w No [devA d D2, blkA P5 43 #[.int .i64 a, .int .i64 b], blkA P10 34 (markC vb).toArray, blkA P13 34 (markC 201).toArray, blkA P15 34 (markC v2).toArray, blkA P19 34 (markC 201).toArray, blkA P21 34 (markC 201).toArray] W21) := hq.pick [1, 2, 3, 4, 5, 6, 0]
        clear hq hW hP HV11
        have HKQ : Hid (∀ (W : World), Hv w No [devA d D2, blkA P5 43 #[.int .i64 a, .int .i64 b], blkA P10 34 (markC vb).toArray, blkA P13 34 (markC 201).toArray, blkA P15 34 (markC v2).toArray, blkA P19 34 (markC 201).toArray, blkA P21 34 (markC 201).toArray] W → W.rangeAt P13 0 (markC 201) ∧ W.rangeAt P19 0 (markC 201) ∧ W.rangeAt P21 0 (markC 201)) := fun W hv => ⟨blk_range (hv.blk (i := 3) rfl), blk_range (hv.blk (i := 5) rfl), blk_range (hv.blk (i := 6) rfl)⟩
        have hn201 := fun w => neq_block (i := 201) (j := 201) (by decide) (by decide) w
        rw [show (!decide ((201 : Int) = 201)) = false from rfl] at hn201
        have e1 := HKQ.out _ HW21.out
        refine wp_region_noPanic ?_
        refine wp_region_held_drew (S := (fun W => W.rangeAt P13 0 (markC 201) ∧ W.rangeAt P19 0 (markC 201) ∧ W.rangeAt P21 0 (markC 201))) (by kernel_rfl) e1 (fun hHeld => ?_)
        clear e1
        refine wpAnyH_take (i := 0) (v := ?vy0) rfl (by kernel_rfl) (by kernel_rfl) (by kernel_rfl) (fun _ _ _ h => h) (Or.inl ⟨by rfl, ?hyy0⟩) (by assumption) ?resty0
        case hyy0 =>
          intro w hSw
          (try dsimp only at hSw)
          go_simp
          try with_reducible rfl
        try simp only [Act.put, List.getElem_toArray, List.getElem_cons_zero, List.setIfInBounds_toArray, List.set_cons_zero, List.set_cons_succ]
        refine wpAnyH_take (i := 1) (v := ?vy1) rfl (by kernel_rfl) (by kernel_rfl) (by kernel_rfl) (fun _ _ _ h => h) (Or.inl ⟨by rfl, ?hyy1⟩) (by assumption) ?resty1
        case hyy1 =>
          intro w hSw
          (try dsimp only at hSw)
          go_simp
          try with_reducible rfl
        try simp only [Act.put, List.getElem_toArray, List.getElem_cons_zero, List.getElem_cons_succ, List.setIfInBounds_toArray, List.set_cons_zero, List.set_cons_succ]
        refine wpAnyH_take (i := 2) (v := ?vy2) rfl (by kernel_rfl) (by kernel_rfl) (by kernel_rfl) (fun _ _ _ h => h) (Or.inl ⟨by rfl, ?hyy2⟩) (by assumption) ?resty2
        case hyy2 =>
          intro w hSw
          (try dsimp only at hSw)
          go_simp
          try with_reducible rfl
        try simp only [Act.put, List.getElem_toArray, List.getElem_cons_zero, List.getElem_cons_succ, List.setIfInBounds_toArray, List.set_cons_zero, List.set_cons_succ]
        refine wpAnyH_take (i := 3) (v := ?vy3) rfl (by kernel_rfl) (by kernel_rfl) (by kernel_rfl) (fun _ _ _ h => h) (Or.inl ⟨by rfl, ?hyy3⟩) (by assumption) ?resty3
        case hyy3 =>
          intro w hSw
          (try dsimp only at hSw)
          go_simp
          try with_reducible rfl
        try simp only [Act.put, List.getElem_toArray, List.getElem_cons_zero, List.getElem_cons_succ, List.setIfInBounds_toArray, List.set_cons_zero, List.set_cons_succ]
        refine wpAnyH_take (i := 4) (v := ?vy4) rfl (by kernel_rfl) (by kernel_rfl) (by kernel_rfl) (fun _ _ _ h => h) (Or.inl ⟨by rfl, ?hyy4⟩) (by assumption) ?resty4
        case hyy4 =>
          intro w hSw
          (try dsimp only at hSw)
          go_simp
          try with_reducible rfl
        try simp only [Act.put, List.getElem_toArray, List.getElem_cons_zero, List.getElem_cons_succ, List.setIfInBounds_toArray, List.set_cons_zero, List.set_cons_succ]
        refine wpAnyH_take (i := 5) (v := ?vy5) rfl (by kernel_rfl) (by kernel_rfl) (by kernel_rfl) (fun _ _ _ h => h) (Or.inl ⟨by rfl, ?hyy5⟩) (by assumption) ?resty5
        case hyy5 =>
          intro w hSw
          (try dsimp only at hSw)
          go_simp
          try with_reducible rfl
        try simp only [Act.put, List.getElem_toArray, List.getElem_cons_zero, List.getElem_cons_succ, List.setIfInBounds_toArray, List.set_cons_zero, List.set_cons_succ]
        refine wpAnyH_take (i := 6) (v := ?vy6) rfl (by kernel_rfl) (by kernel_rfl) (by kernel_rfl) (fun _ _ _ h => h) (Or.inl ⟨by rfl, ?hyy6⟩) (by assumption) ?resty6
        case hyy6 =>
          intro w hSw
          (try dsimp only at hSw)
          go_simp
          try with_reducible rfl
        try simp only [Act.put, List.getElem_toArray, List.getElem_cons_zero, List.getElem_cons_succ, List.setIfInBounds_toArray, List.set_cons_zero, List.set_cons_succ]
        refine wpAnyH_take (i := 7) (v := .agg _) rfl (by kernel_rfl) (by kernel_rfl) (by kernel_rfl) (fun _ _ _ h => h) (yieldsIf_load_mid (by rfl) 34 (.tmp 13) rfl _ _ rfl (markC 201) _ (fun w hSw => hSw.1) Try.underlying34 rfl (by rw [size34, markC_length])) (by assumption) ?_
        try simp only [Act.put, List.getElem_toArray, List.getElem_cons_zero, List.getElem_cons_succ, List.setIfInBounds_toArray, List.set_cons_zero, List.set_cons_succ]
        refine wpAnyH_ready (rs := [8]) (by kernel_rfl) (by simp) ?_
        refine AllReadyH.cons rfl (fun K hK => ?_) AllReadyH.nil
        go_simp
        refine (mark_any 201 _).mono ?_
        rintro e w12 ⟨rfl, hb⟩
        rw [show (201 : Int) % 256 = 201 from rfl]
        have HV12 := Lib.hid (HW21.out.drew.still hb)
        clear hb HW21
        refine hK.out _ _ (HKQ.out _ HV12.out) (fun hHeld1 => ?_)
        clear hK K
        try simp only [Act.put, List.getElem_toArray, List.getElem_cons_zero, List.getElem_cons_succ, List.setIfInBounds_toArray, List.set_cons_zero, List.set_cons_succ]
        refine wpAnyH_take (i := 9) (v := ?vy9) rfl (by kernel_rfl) (by kernel_rfl) (by kernel_rfl) (fun _ _ _ h => h) (Or.inl ⟨by rfl, ?hyy9⟩) (by assumption) ?resty9
        case hyy9 =>
          intro w hSw
          (try dsimp only at hSw)
          go_simp
          try with_reducible rfl
        try simp only [Act.put, List.getElem_toArray, List.getElem_cons_zero, List.getElem_cons_succ, List.setIfInBounds_toArray, List.set_cons_zero, List.set_cons_succ]
        refine wpAnyH_take (i := 10) (v := ?vy10) rfl (by kernel_rfl) (by kernel_rfl) (by kernel_rfl) (fun _ _ _ h => h) (Or.inl ⟨by rfl, ?hyy10⟩) (by assumption) ?resty10
        case hyy10 =>
          intro w hSw
          (try dsimp only at hSw)
          go_simp
          try with_reducible rfl
        try simp only [Act.put, List.getElem_toArray, List.getElem_cons_zero, List.getElem_cons_succ, List.setIfInBounds_toArray, List.set_cons_zero, List.set_cons_succ]
        refine wpAnyH_take (i := 11) (v := ?vy11) rfl (by kernel_rfl) (by kernel_rfl) (by kernel_rfl) (fun _ _ _ h => h) (Or.inl ⟨by rfl, ?hyy11⟩) (by assumption) ?resty11
        case hyy11 =>
          intro w hSw
          (try dsimp only at hSw)
          go_simp
          try with_reducible rfl
        try simp only [Act.put, List.getElem_toArray, List.getElem_cons_zero, List.getElem_cons_succ, List.setIfInBounds_toArray, List.set_cons_zero, List.set_cons_succ]
        refine wpAnyH_take (i := 12) (v := ?vy12) rfl (by kernel_rfl) (by kernel_rfl) (by kernel_rfl) (fun _ _ _ h => h) (Or.inl ⟨by rfl, ?hyy12⟩) (by assumption) ?resty12
        case hyy12 =>
          intro w hSw
          (try dsimp only at hSw)
          go_simp
          try with_reducible rfl
        try simp only [Act.put, List.getElem_toArray, List.getElem_cons_zero, List.getElem_cons_succ, List.setIfInBounds_toArray, List.set_cons_zero, List.set_cons_succ]
        refine wpAnyH_take (i := 13) (v := ?vy13) rfl (by kernel_rfl) (by kernel_rfl) (by kernel_rfl) (fun _ _ _ h => h) (Or.inl ⟨by rfl, ?hyy13⟩) (by assumption) ?resty13
        case hyy13 =>
          intro w hSw
          (try dsimp only at hSw)
          go_simp
          try with_reducible rfl
        try simp only [Act.put, List.getElem_toArray, List.getElem_cons_zero, List.getElem_cons_succ, List.setIfInBounds_toArray, List.set_cons_zero, List.set_cons_succ]
        refine wpAnyH_take (i := 14) (v := ?vy14) rfl (by kernel_rfl) (by kernel_rfl) (by kernel_rfl) (fun _ _ _ h => h) (Or.inl ⟨by rfl, ?hyy14⟩) (by assumption) ?resty14
        case hyy14 =>
          intro w hSw
          (try dsimp only at hSw)
          go_simp
          try with_reducible rfl
        try simp only [Act.put, List.getElem_toArray, List.getElem_cons_zero, List.getElem_cons_succ, List.setIfInBounds_toArray, List.set_cons_zero, List.set_cons_succ]
        refine wpAnyH_take (i := 15) (v := ?vy15) rfl (by kernel_rfl) (by kernel_rfl) (by kernel_rfl) (fun _ _ _ h => h) (Or.inl ⟨by rfl, ?hyy15⟩) (by assumption) ?resty15
        case hyy15 =>
          intro w hSw
          (try dsimp only at hSw)
          go_simp
          try with_reducible rfl
        try simp only [Act.put, List.getElem_toArray, List.getElem_cons_zero, List.getElem_cons_succ, List.setIfInBounds_toArray, List.set_cons_zero, List.set_cons_succ]
        refine wpAnyH_take (i := 16) (v := ?vy16) rfl (by kernel_rfl) (by kernel_rfl) (by kernel_rfl) (fun _ _ _ h => h) (Or.inl ⟨by rfl, ?hyy16⟩) (by assumption) ?resty16
        case hyy16 =>
          intro w hSw
          (try dsimp only at hSw)
          go_simp
          try with_reducible rfl
        try simp only [Act.put, List.getElem_toArray, List.getElem_cons_zero, List.getElem_cons_succ, List.setIfInBounds_toArray, List.set_cons_zero, List.set_cons_succ]
        refine wpAnyH_take (i := 17) (v := ?vy17) rfl (by kernel_rfl) (by kernel_rfl) (by kernel_rfl) (fun _ _ _ h => h) (Or.inl ⟨by rfl, ?hyy17⟩) (by assumption) ?resty17
        case hyy17 =>
          intro w hSw
          (try dsimp only at hSw)
          go_simp
          try with_reducible rfl
        try simp only [Act.put, List.getElem_toArray, List.getElem_cons_zero, List.getElem_cons_succ, List.setIfInBounds_toArray, List.set_cons_zero, List.set_cons_succ]
        refine wpAnyH_take (i := 18) (v := ?vy18) rfl (by kernel_rfl) (by kernel_rfl) (by kernel_rfl) (fun _ _ _ h => h) (Or.inl ⟨by rfl, ?hyy18⟩) (by assumption) ?resty18
        case hyy18 =>
          intro w hSw
          (try dsimp only at hSw)
          go_simp
          try with_reducible rfl
        try simp only [Act.put, List.getElem_toArray, List.getElem_cons_zero, List.getElem_cons_succ, List.setIfInBounds_toArray, List.set_cons_zero, List.set_cons_succ]
        refine wpAnyH_take (i := 19) (v := ?vy19) rfl (by kernel_rfl) (by kernel_rfl) (by kernel_rfl) (fun _ _ _ h => h) (Or.inl ⟨by rfl, ?hyy19⟩) (by assumption) ?resty19
        case hyy19 =>
          intro w hSw
          (try dsimp only at hSw)
          go_simp
          try with_reducible rfl
        try simp only [Act.put, List.getElem_toArray, List.getElem_cons_zero, List.getElem_cons_succ, List.setIfInBounds_toArray, List.set_cons_zero, List.set_cons_succ]
        refine wpAnyH_take (i := 20) (v := ?vy20) rfl (by kernel_rfl) (by kernel_rfl) (by kernel_rfl) (fun _ _ _ h => h) (Or.inl ⟨by rfl, ?hyy20⟩) (by assumption) ?resty20
        case hyy20 =>
          intro w hSw
          (try dsimp only at hSw)
          go_simp
          try with_reducible rfl
        try simp only [Act.put, List.getElem_toArray, List.getElem_cons_zero, List.getElem_cons_succ, List.setIfInBounds_toArray, List.set_cons_zero, List.set_cons_succ]
        refine wpAnyH_take (i := 21) (v := ?vy21) rfl (by kernel_rfl) (by kernel_rfl) (by kernel_rfl) (fun _ _ _ h => h) (Or.inl ⟨by rfl, ?hyy21⟩) (by assumption) ?resty21
        case hyy21 =>
          intro w hSw
          (try dsimp only at hSw)
          go_simp
          try with_reducible rfl
        try simp only [Act.put, List.getElem_toArray, List.getElem_cons_zero, List.getElem_cons_succ, List.setIfInBounds_toArray, List.set_cons_zero, List.set_cons_succ]
        refine wpAnyH_take (i := 22) (v := ?vy22) rfl (by kernel_rfl) (by kernel_rfl) (by kernel_rfl) (fun _ _ _ h => h) (Or.inl ⟨by rfl, ?hyy22⟩) (by assumption) ?resty22
        case hyy22 =>
          intro w hSw
          (try dsimp only at hSw)
          go_simp
          try with_reducible rfl
        try simp only [Act.put, List.getElem_toArray, List.getElem_cons_zero, List.getElem_cons_succ, List.setIfInBounds_toArray, List.set_cons_zero, List.set_cons_succ]
        refine wpAnyH_take (i := 23) (v := ?vy23) rfl (by kernel_rfl) (by kernel_rfl) (by kernel_rfl) (fun _ _ _ h => h) (Or.inl ⟨by rfl, ?hyy23⟩) (by assumption) ?resty23
        case hyy23 =>
          intro w hSw
          (try dsimp only at hSw)
          go_simp
          try with_reducible rfl
        try simp only [Act.put, List.getElem_toArray, List.getElem_cons_zero, List.getElem_cons_succ, List.setIfInBounds_toArray, List.set_cons_zero, List.set_cons_succ]
        refine wpAnyH_take (i := 24) (v := .agg _) rfl (by kernel_rfl) (by kernel_rfl) (by kernel_rfl) (fun _ _ _ h => h) (yieldsIf_load_mid (by rfl) 34 (.tmp 19) rfl _ _ rfl (markC 201) _ (fun w hSw => hSw.2.1) Try.underlying34 rfl (by rw [size34, markC_length])) (by assumption) ?_
        try simp only [Act.put, List.getElem_toArray, List.getElem_cons_zero, List.getElem_cons_succ, List.setIfInBounds_toArray, List.set_cons_zero, List.set_cons_succ]
        refine wpAnyH_take (i := 25) (v := .agg _) rfl (by kernel_rfl) (by kernel_rfl) (by kernel_rfl) (fun _ _ _ h => h) (yieldsIf_load_mid (by rfl) 34 (.tmp 13) rfl _ _ rfl (markC 201) _ (fun w hSw => hSw.1) Try.underlying34 rfl (by rw [size34, markC_length])) (by assumption) ?_
        try simp only [Act.put, List.getElem_toArray, List.getElem_cons_zero, List.getElem_cons_succ, List.setIfInBounds_toArray, List.set_cons_zero, List.set_cons_succ]
        refine wpAnyH_take (i := 26) (v := ?vy26) rfl (by kernel_rfl) (by kernel_rfl) (by kernel_rfl) (fun _ _ _ h => h) (Or.inl ⟨by rfl, ?hyy26⟩) (by assumption) ?resty26
        case hyy26 =>
          intro w hSw
          (try dsimp only at hSw)
          go_simp
          try with_reducible rfl
        try simp only [Act.put, List.getElem_toArray, List.getElem_cons_zero, List.getElem_cons_succ, List.setIfInBounds_toArray, List.set_cons_zero, List.set_cons_succ]
        refine wpAnyH_take (i := 27) (v := ?vy27) rfl (by kernel_rfl) (by kernel_rfl) (by kernel_rfl) (fun _ _ _ h => h) (Or.inl ⟨by rfl, ?hyy27⟩) (by assumption) ?resty27
        case hyy27 =>
          intro w hSw
          (try dsimp only at hSw)
          go_simp
          try with_reducible rfl
        try simp only [Act.put, List.getElem_toArray, List.getElem_cons_zero, List.getElem_cons_succ, List.setIfInBounds_toArray, List.set_cons_zero, List.set_cons_succ]
        refine wpAnyH_take (i := 28) (v := ?vy28) rfl (by kernel_rfl) (by kernel_rfl) (by kernel_rfl) (fun _ _ _ h => h) (Or.inl ⟨by rfl, ?hyy28⟩) (by assumption) ?resty28
        case hyy28 =>
          intro w hSw
          (try dsimp only at hSw)
          go_simp
          try with_reducible rfl
        try simp only [Act.put, List.getElem_toArray, List.getElem_cons_zero, List.getElem_cons_succ, List.setIfInBounds_toArray, List.set_cons_zero, List.set_cons_succ]
        refine wpAnyH_take (i := 29) (v := ?vy29) rfl (by kernel_rfl) (by kernel_rfl) (by kernel_rfl) (fun _ _ _ h => h) (Or.inl ⟨by rfl, ?hyy29⟩) (by assumption) ?resty29
        case hyy29 =>
          intro w hSw
          (try dsimp only at hSw)
          go_simp
          try with_reducible rfl
        try simp only [Act.put, List.getElem_toArray, List.getElem_cons_zero, List.getElem_cons_succ, List.setIfInBounds_toArray, List.set_cons_zero, List.set_cons_succ]
        refine wpAnyH_take (i := 30) (v := ?vy30) rfl (by kernel_rfl) (by kernel_rfl) (by kernel_rfl) (fun _ _ _ h => h) (Or.inl ⟨by rfl, ?hyy30⟩) (by assumption) ?resty30
        case hyy30 =>
          intro w hSw
          (try dsimp only at hSw)
          go_simp
          try with_reducible rfl
        try simp only [Act.put, List.getElem_toArray, List.getElem_cons_zero, List.getElem_cons_succ, List.setIfInBounds_toArray, List.set_cons_zero, List.set_cons_succ]
        refine wpAnyH_take (i := 31) (v := ?vy31) rfl (by kernel_rfl) (by kernel_rfl) (by kernel_rfl) (fun _ _ _ h => h) (Or.inl ⟨by rfl, ?hyy31⟩) (by assumption) ?resty31
        case hyy31 =>
          intro w hSw
          (try dsimp only at hSw)
          go_simp
          try with_reducible rfl
        try simp only [Act.put, List.getElem_toArray, List.getElem_cons_zero, List.getElem_cons_succ, List.setIfInBounds_toArray, List.set_cons_zero, List.set_cons_succ]
        refine wpAnyH_take (i := 32) (v := ?vy32) rfl (by kernel_rfl) (by kernel_rfl) (by kernel_rfl) (fun _ _ _ h => h) (Or.inl ⟨by rfl, ?hyy32⟩) (by assumption) ?resty32
        case hyy32 =>
          intro w hSw
          (try dsimp only at hSw)
          go_simp
          try with_reducible rfl
        try simp only [Act.put, List.getElem_toArray, List.getElem_cons_zero, List.getElem_cons_succ, List.setIfInBounds_toArray, List.set_cons_zero, List.set_cons_succ]
        refine wpAnyH_take (i := 33) (v := .agg _) rfl (by kernel_rfl) (by kernel_rfl) (by kernel_rfl) (fun _ _ _ h => h) (yieldsIf_load_mid (by rfl) 34 (.tmp 21) rfl _ _ rfl (markC 201) _ (fun w hSw => hSw.2.2) Try.underlying34 rfl (by rw [size34, markC_length])) (by assumption) ?_
        try simp only [Act.put, List.getElem_toArray, List.getElem_cons_zero, List.getElem_cons_succ, List.setIfInBounds_toArray, List.set_cons_zero, List.set_cons_succ]
        refine wpAnyH_take (i := 34) (v := .agg _) rfl (by kernel_rfl) (by kernel_rfl) (by kernel_rfl) (fun _ _ _ h => h) (yieldsIf_load_mid (by rfl) 34 (.tmp 13) rfl _ _ rfl (markC 201) _ (fun w hSw => hSw.1) Try.underlying34 rfl (by rw [size34, markC_length])) (by assumption) ?_
        try simp only [Act.put, List.getElem_toArray, List.getElem_cons_zero, List.getElem_cons_succ, List.setIfInBounds_toArray, List.set_cons_zero, List.set_cons_succ]
        refine wpAnyH_take (i := 35) (v := ?vy35) rfl (by kernel_rfl) (by kernel_rfl) (by kernel_rfl) (fun _ _ _ h => h) (Or.inl ⟨by rfl, ?hyy35⟩) (by assumption) ?resty35
        case hyy35 =>
          intro w hSw
          (try dsimp only at hSw)
          go_simp
          try with_reducible rfl
        try simp only [Act.put, List.getElem_toArray, List.getElem_cons_zero, List.getElem_cons_succ, List.setIfInBounds_toArray, List.set_cons_zero, List.set_cons_succ]
        refine wpAnyH_take (i := 36) (v := ?vy36) rfl (by kernel_rfl) (by kernel_rfl) (by kernel_rfl) (fun _ _ _ h => h) (Or.inl ⟨by rfl, ?hyy36⟩) (by assumption) ?resty36
        case hyy36 =>
          intro w hSw
          (try dsimp only at hSw)
          go_simp
          try with_reducible rfl
        try simp only [Act.put, List.getElem_toArray, List.getElem_cons_zero, List.getElem_cons_succ, List.setIfInBounds_toArray, List.set_cons_zero, List.set_cons_succ]
        refine wpAnyH_take (i := 37) (v := ?vy37) rfl (by kernel_rfl) (by kernel_rfl) (by kernel_rfl) (fun _ _ _ h => h) (Or.inl ⟨by rfl, ?hyy37⟩) (by assumption) ?resty37
        case hyy37 =>
          intro w hSw
          (try dsimp only at hSw)
          go_simp
          try with_reducible rfl
        try simp only [Act.put, List.getElem_toArray, List.getElem_cons_zero, List.getElem_cons_succ, List.setIfInBounds_toArray, List.set_cons_zero, List.set_cons_succ]
        refine wpAnyH_take (i := 38) (v := ?vy38) rfl (by kernel_rfl) (by kernel_rfl) (by kernel_rfl) (fun _ _ _ h => h) (Or.inl ⟨by rfl, ?hyy38⟩) (by assumption) ?resty38
        case hyy38 =>
          intro w hSw
          (try dsimp only at hSw)
          go_simp
          try with_reducible rfl
        try simp only [Act.put, List.getElem_toArray, List.getElem_cons_zero, List.getElem_cons_succ, List.setIfInBounds_toArray, List.set_cons_zero, List.set_cons_succ]
        refine wpAnyH_ready (rs := [39]) (by kernel_rfl) (by simp) ?_
        refine AllReadyH.cons rfl (fun K hK => ?_) AllReadyH.nil
        go_simp
        obtain ⟨T, hT, _⟩ := Hv.use [devA d D2] _ HV12.out
        refine (open_any (Lib.hid hT)).mono ?_
        rintro e w13 ⟨rfl, rfl⟩
        rw [HO2.out]
        clear hT
        refine hK.out _ _ (HKQ.out _ HV12.out) (fun hHeld2 => ?_)
        clear hK K
        try simp only [Act.put, List.getElem_toArray, List.getElem_cons_zero, List.getElem_cons_succ, List.setIfInBounds_toArray, List.set_cons_zero, List.set_cons_succ]
        refine wpAnyH_take (i := 40) (v := ?vy40) rfl (by kernel_rfl) (by kernel_rfl) (by kernel_rfl) (fun _ _ _ h => h) (Or.inl ⟨by rfl, ?hyy40⟩) (by assumption) ?resty40
        case hyy40 =>
          intro w hSw
          (try dsimp only at hSw)
          go_simp
          try with_reducible rfl
        try simp only [Act.put, List.getElem_toArray, List.getElem_cons_zero, List.getElem_cons_succ, List.setIfInBounds_toArray, List.set_cons_zero, List.set_cons_succ]
        refine wpAnyH_take (i := 41) (v := ?vy41) rfl (by kernel_rfl) (by kernel_rfl) (by kernel_rfl) (fun _ _ _ h => h) (Or.inl ⟨by rfl, ?hyy41⟩) (by assumption) ?resty41
        case hyy41 =>
          intro w hSw
          (try dsimp only at hSw)
          go_simp
          try with_reducible rfl
        try simp only [Act.put, List.getElem_toArray, List.getElem_cons_zero, List.getElem_cons_succ, List.setIfInBounds_toArray, List.set_cons_zero, List.set_cons_succ]
        refine wpAnyH_done (by kernel_rfl) ?_ _
        refine NoPanic.normal ?_
        clear hHeld hHeld1 hHeld2 HKQ HKP
        have c4 : w12.cell? ⟨P5, 0, none⟩ = some (.int .i64 a) := by simpa using (HV12.out.blk (i := 1) rfl).cell 0
        have c5 : w12.cell? ⟨P5, 1, none⟩ = some (.int .i64 b) := by simpa using (HV12.out.blk (i := 1) rfl).cell 1
        by_cases htb : there D b = true
        · obtain ⟨hb0, hb1⟩ := there_lt htb
          rw [HN.out.flen] at hb1
          have q1 := HRB.out
          have q2 := HRB1.out
          rw [if_pos htb, if_pos htb] at q1 q2
          obtain ⟨q1, rfl⟩ := q1
          obtain ⟨q2, rfl⟩ := q2
          have f3 : decide (b < 0) = false := decide_eq_false (by omega)
          have f4 : decide ((n : Int) ≤ b) = false := decide_eq_false (by omega)
          clear hb0 hb1
          by_cases hab : a = b
          · have f5 : (a == b) = true := by rw [beq_iff_eq]; exact hab
            clear hab q1 q2 HRB HRB1 htb
            go_wp2_with fail
            refine (awake_any _).mono ?_
            rintro e w13 ⟨rfl, hb⟩
            have HB := Lib.hid (HV12.out.still hb).below
            clear hb
            go_wp2
            go_ret
            exact ⟨rfl, HB.out⟩
          · have f5 : (a == b) = false := by rw [beq_eq_false_iff_ne]; exact hab
            have q3 : v2 = vb := by rw [q2, q1, HD1.out, shown_add, if_neg hab]
            have hvr : 0 ≤ vb ∧ vb < 256 := by rw [q1]; exact shown_byte HN.out.okb
            have hev := fun w => eql_block hvr hvr w
            rw [show decide (vb = vb) = true from decide_eq_true rfl] at hev
            have hr10 : w12.rangeAt P10 0 (markC vb) := blk_range (HV12.out.blk (i := 2) rfl)
            have hr15 : w12.rangeAt P15 0 (markC vb) := by rw [← q3]; exact blk_range (HV12.out.blk (i := 4) rfl)
            clear hab q1 q2 q3 HRB HRB1 htb hvr
            go_upto_region 25 with (fail)
            apply wp_region_lit
            repeat (first
              | (refine wpList_load_wanted hr15 (by rfl) (.tmp 15) rfl rfl ?_)
              | (refine wpList_load_wanted hr10 (by rfl) (.tmp 10) rfl rfl ?_)
              | go_step)
            go_wp2_with fail
            refine (awake_any _).mono ?_
            rintro e w13 ⟨rfl, hb⟩
            have HB := Lib.hid (HV12.out.still hb).below
            clear hb
            go_wp2
            go_ret
            exact ⟨rfl, HB.out⟩
        · have htb2 : b < 0 ∨ (n : Int) ≤ b := by
            by_cases h0 : 0 ≤ b
            · refine .inr (Int.not_lt.1 fun h1 => htb ?_)
              unfold there
              rw [decide_eq_true h0, HN.out.flen, decide_eq_true h1]
              rfl
            · exact .inl (by omega)
          have q1 := HRB.out
          have q2 := HRB1.out
          rw [if_neg htb, if_neg htb] at q1 q2
          obtain ⟨q1, rfl⟩ := q1
          obtain ⟨q2, rfl⟩ := q2
          by_cases hb0 : b < 0
          · have f3 : decide (b < 0) = true := decide_eq_true hb0
            clear htb2 htb hb0 q1 q2 HRB HRB1
            go_wp2_with fail
            refine (awake_any _).mono ?_
            rintro e w13 ⟨rfl, hb⟩
            have HB := Lib.hid (HV12.out.still hb).below
            clear hb
            go_wp2
            go_ret
            exact ⟨rfl, HB.out⟩
          · have f3 : decide (b < 0) = false := decide_eq_false hb0
            have f4 : decide ((n : Int) ≤ b) = true := decide_eq_true (by omega)
            clear htb2 htb hb0 q1 q2 HRB HRB1
            go_wp2_with fail
            refine (awake_any _).mono ?_
            rintro e w13 ⟨rfl, hb⟩
            have HB := Lib.hid (HV12.out.still hb).below
            clear hb
            go_wp2
            go_ret
            exact ⟨rfl, HB.out⟩
      · rw [if_neg hth] at h5 ⊢
        have HV12 : Hid (Hv w No [devA d D, blkA P5 43 #[.int .i64 a, .int .i64 b], blkA P10 34 (markC vb).toArray] w5) := hJ _ _ h5
        have hta : a < 0 ∨ (n : Int) ≤ a := by
          by_cases h0 : 0 ≤ a
          · refine .inr (Int.not_lt.1 fun h1 => hth ?_)
            unfold there
            rw [decide_eq_true h0, HN.out.flen, decide_eq_true h1]
            rfl
          · exact .inl (by omega)
        clear h5 hT hJ HV4 hth
        refine hK.out _ _ (HKP.out _ _ HV12.out) (fun hHeld2 => ?_)
        clear hK K
        refine wpAnyH_take (i := 5) (v := ?vv5) rfl (by kernel_rfl) (by kernel_rfl) (by kernel_rfl) (fun _ _ _ h => h) (Or.inl ⟨by rfl, ?hyv5⟩) (by assumption) ?restv5
        case hyv5 =>
          intro w hSw
          (try dsimp only at hSw)
          go_simp
          try with_reducible rfl
        try simp only [Act.put, List.getElem_toArray, List.getElem_cons_zero, List.getElem_cons_succ, List.setIfInBounds_toArray, List.set_cons_zero, List.set_cons_succ]
        refine wpAnyH_done (by kernel_rfl) ?_ _
        refine NoPanic.normal ?_
        clear hHeld hHeld1 hHeld2
        have c5 := HKP.out _ _ HV12.out
        by_cases ha0 : a < 0
        · have f1 : decide (a < 0) = true := decide_eq_true ha0
          clear hta ha0
          go_wp2_with fail
          refine (awake_any _).mono ?_
          rintro e w13 ⟨rfl, hb⟩
          have HB := Lib.hid (HV12.out.still hb).below
          clear hb
          go_wp2
          go_ret
          exact ⟨rfl, HB.out⟩
        · have f1 : decide (a < 0) = false := decide_eq_false ha0
          have f2 : decide ((n : Int) ≤ a) = true := decide_eq_true (by omega)
          clear hta ha0
          go_wp2_with fail
          refine (awake_any _).mono ?_
          rintro e w13 ⟨rfl, hb⟩
          have HB := Lib.hid (HV12.out.still hb).below
          clear hb
          go_wp2
          go_ret
          exact ⟨rfl, HB.out⟩
end Go.Proofs.Ytbfmgdkiigkioaa

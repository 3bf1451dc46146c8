/- The walk of DevFates: its beginning, and its loop. -/
import Derived.Test.YtbfmgdkiigkioaaReadsP
import Derived.Test.YtbfmgdkiigkioaaPlan
import Derived.Test.YtbfmgdkiigkioaaNil
namespace Go.Proofs.Ytbfmgdkiigkioaa
open Go.RowKit Go.LawEnd

set_option maxRecDepth 100000 in
set_option maxHeartbeats 6400000 in
theorem fates_bad (A : Option Addr) (c : Nat) (m : Int) (l : List Cl) (xa xs xn : Int) (w : World) (hbad : Hid (¬ (1 ≤ m ∧ m ≤ 40 ∧ l.length ≤ 80 ∧ 0 ≤ xs ∧ xs < m))) :
    Calls Try.prog 8 #[.int .i64 m, .slice A l.length c, .agg #[.int .i64 xa, .int .i64 xs, .int .i64 xn]] w (Yes w) := by
  obtain ⟨L, hL⟩ : ∃ L, L = l.length := ⟨_, rfl⟩
  rw [← hL] at hbad ⊢
  clear hL
  have hb0 := hbad.out
  have HV : Hid (Hv w No [] (w.alloc (.cells #[.int .i64 xa, .int .i64 xs, .int .i64 xn] 31))) := (Hv.begin w).alloc_ _
  by_cases h1 : m < 1
  · have d1 : decide (m < 1) = true := decide_eq_true h1
    clear hb0 hbad
    go_enter Try.func8, Try.ntmps8
    go_wp2_with fail
    refine (awake_any _).mono ?_
    rintro e w2 ⟨rfl, hb⟩
    have HB := Lib.hid (HV.out.still hb).below
    clear hb HV
    go_wp2
    go_ret
    exact ⟨rfl, HB.out⟩
  · have d1 : decide (m < 1) = false := decide_eq_false h1
    by_cases h2 : 40 < m
    · have d2 : decide (40 < m) = true := decide_eq_true h2
      clear hb0 hbad
      go_enter Try.func8, Try.ntmps8
      go_wp2_with fail
      refine (awake_any _).mono ?_
      rintro e w2 ⟨rfl, hb⟩
      have HB := Lib.hid (HV.out.still hb).below
      clear hb HV
      go_wp2
      go_ret
      exact ⟨rfl, HB.out⟩
    · have d2 : decide (40 < m) = false := decide_eq_false h2
      by_cases h3 : L ≤ 80
      · have d3 : decide ((L : Int) ≤ 80) = true := decide_eq_true (by omega)
        by_cases h4 : xs < 0
        · have d4 : decide (xs < 0) = true := decide_eq_true h4
          clear hb0 hbad
          go_enter Try.func8, Try.ntmps8
          go_wp2_with fail
          refine (few_any _ _ _ _).mono ?_
          rintro e w2 ⟨rfl, rfl⟩
          rw [d3]
          go_wp2_with fail
          refine (awake_any _).mono ?_
          rintro e w2 ⟨rfl, hb⟩
          have HB := Lib.hid (HV.out.still hb).below
          clear hb HV
          go_wp2
          go_ret
          exact ⟨rfl, HB.out⟩
        · have d4 : decide (xs < 0) = false := decide_eq_false h4
          have d5 : decide (m ≤ xs) = true := decide_eq_true (by omega)
          clear hb0 hbad
          go_enter Try.func8, Try.ntmps8
          go_wp2_with fail
          refine (few_any _ _ _ _).mono ?_
          rintro e w2 ⟨rfl, rfl⟩
          rw [d3]
          go_wp2_with fail
          refine (awake_any _).mono ?_
          rintro e w2 ⟨rfl, hb⟩
          have HB := Lib.hid (HV.out.still hb).below
          clear hb HV
          go_wp2
          go_ret
          exact ⟨rfl, HB.out⟩
      · have d3 : decide ((L : Int) ≤ 80) = false := decide_eq_false (by omega)
        clear hb0 hbad
        go_enter Try.func8, Try.ntmps8
        go_wp2_with fail
        refine (few_any _ _ _ _).mono ?_
        rintro e w2 ⟨rfl, rfl⟩
        rw [d3]
        go_wp2_with fail
        refine (awake_any _).mono ?_
        rintro e w2 ⟨rfl, hb⟩
        have HB := Lib.hid (HV.out.still hb).below
        clear hb HV
        go_wp2
        go_ret
        exact ⟨rfl, HB.out⟩
set_option maxRecDepth 100000 in
set_option maxHeartbeats 6400000 in
theorem fates_good (A : Option Addr) (c n : Nat) (l : List Cl) (xa xs xn : Int) (w : World) (hg : Hid (1 ≤ n ∧ n ≤ 40 ∧ l.length ≤ 80)) (hxs : Hid (0 ≤ xs ∧ xs < (n : Int))) (hA : Hid (ClArg w A l)) :
    Calls Try.prog 8 #[.int .i64 (n : Int), .slice A l.length c, .agg #[.int .i64 xa, .int .i64 xs, .int .i64 xn]] w (Yes w) := by
  obtain ⟨L, hL⟩ : ∃ L, L = l.length := ⟨_, rfl⟩
  have HL := Lib.hid hL
  rw [← hL] at hg ⊢
  clear hL
  obtain ⟨g1, g2, g3⟩ := hg.out
  have d1 : decide ((n : Int) < 1) = false := decide_eq_false (by omega)
  have d2 : decide (40 < (n : Int)) = false := decide_eq_false (by omega)
  have d3 : decide ((L : Int) ≤ 80) = true := decide_eq_true (by omega)
  go_enter Try.func8, Try.ntmps8
  go_wp2_with fail
  refine (few_any _ _ _ _).mono ?_
  rintro e w2 ⟨rfl, rfl⟩
  rw [d3]
  obtain ⟨P5, hP5⟩ : ∃ y, y = w.heap.size := ⟨_, rfl⟩
  obtain ⟨V, hV⟩ : ∃ y, y = w.alloc (.cells #[.int .i64 xa, .int .i64 xs, .int .i64 xn] 31) := ⟨_, rfl⟩
  have hv := (Hv.begin w).alloc 31 #[.int .i64 xa, .int .i64 xs, .int .i64 xn]
  rw [← hV, ← hP5] at hv
  rw [← hV, ← hP5]
  have HV := Lib.hid hv
  have c51 : V.cell? ⟨P5, 1, none⟩ = some (.int .i64 xs) := by simpa using (hv.blk (i := 0) rfl).cell 1
  have d4 : decide (xs < 0) = false := decide_eq_false (by have := hxs.out; omega)
  have d5 : decide ((n : Int) ≤ xs) = false := decide_eq_false (by have := hxs.out; omega)
  clear hv hV hP5
  go_wp2_with fail
  refine (new_yes n _ g1 (by omega)).mono ?_
  rintro e w1 ⟨d, rfl, h1⟩
  have H0 : Hid (Hv w No [devA d (D0 n), blkA P5 31 #[.int .i64 xa, .int .i64 xs, .int .i64 xn]] w1) := HV.out.add h1
  clear h1 HV c51
  go_wp2_with fail
  go_loopw [9] (fun i wr => ∃ k : Nat, k ≤ L ∧ i = .int .i64 k ∧ ∃ D, Inv n k D ∧ Hv w No [devA d D, blkA P5 31 #[.int .i64 xa, .int .i64 xs, .int .i64 xn]] wr) (fun i _ => L - (intOf i).toNat)
  case atStart => exact ⟨0, by omega, rfl, _, inv_new n, H0.out⟩
  case round =>
    clear H0
    obtain ⟨k, hk, rfl, D, hinv, hi⟩ := hrel
    have HI := Lib.hid hi
    have HN := Lib.hid hinv
    clear hi hinv
    by_cases hkl : k < L
    · have hkl' : k < l.length := by rw [← HL.out]; exact hkl
      have HAR : Hid (∀ W, Below w.heap.size w W → ∃ b off, A = some ⟨b, off, none⟩ ∧ W.cell? ⟨b, off + k * 3, none⟩ = some (.int .i64 l[k].1) ∧ W.cell? ⟨b, off + k * 3 + 1, none⟩ = some (.int .i64 l[k].2.1) ∧ W.cell? ⟨b, off + k * 3 + 2, none⟩ = some (.int .i64 l[k].2.2)) := fun W hW => by
        obtain ⟨b, off, e, _, h⟩ := hA.out.below hW k hkl'
        exact ⟨b, off, e, h⟩
      obtain ⟨y, hy⟩ : ∃ y, y = l[k] := ⟨_, rfl⟩
      rw [← hy] at HAR
      clear hy hkl'
      obtain ⟨ask, s, z⟩ := y
      obtain ⟨ab, ao, rfl, c0, c1, c2⟩ := HAR.out wr HI.out.below
      have HARS : Hid (∀ W, Below w.heap.size w W → W.cell? ⟨ab, ao + k * 3, none⟩ = some (.int .i64 ask) ∧ W.cell? ⟨ab, ao + k * 3 + 1, none⟩ = some (.int .i64 s) ∧ W.cell? ⟨ab, ao + k * 3 + 2, none⟩ = some (.int .i64 z)) := fun W hW => by
        obtain ⟨b', o', e, h⟩ := HAR.out W hW
        injection e with e
        injection e with e1 e2
        subst e1
        subst e2
        exact h
      clear HAR
      by_cases hw : ask = 0 ∨ ask = 2
      · have HW := Lib.hid hw
        rcases hw with rfl | rfl
        all_goals go_wp2_with fail
        all_goals refine wp_region_noPanic ?_
        · refine wp_region_held_drew (S := (fun W => W.cell? ⟨ab, ao + k * 3, none⟩ = some (.int .i64 0) ∧ W.cell? ⟨ab, ao + k * 3 + 1, none⟩ = some (.int .i64 s) ∧ W.cell? ⟨ab, ao + k * 3 + 2, none⟩ = some (.int .i64 z))) (by kernel_rfl) ⟨c0, c1, c2⟩ (fun hHeld => ?_)
          refine wpAnyH_take (i := 0) (v := ?vp0) rfl (by kernel_rfl) (by kernel_rfl) (by kernel_rfl) (fun _ _ _ h => h) (Or.inl ⟨by rfl, ?hyp0⟩) (by assumption) ?restp0
          case hyp0 =>
            intro w hSw
            (try dsimp only at hSw)
            go_simp
            try with_reducible rfl
          try simp only [Act.put, List.getElem_toArray, List.getElem_cons_zero, List.setIfInBounds_toArray, List.set_cons_zero, List.set_cons_succ]
          refine wpAnyH_take (i := 1) (v := ?vp1) rfl (by kernel_rfl) (by kernel_rfl) (by kernel_rfl) (fun _ _ _ h => h) (Or.inl ⟨by rfl, ?hyp1⟩) (by assumption) ?restp1
          case hyp1 =>
            intro w hSw
            (try dsimp only at hSw)
            go_simp
            try with_reducible rfl
          try simp only [Act.put, List.getElem_toArray, List.getElem_cons_zero, List.getElem_cons_succ, List.setIfInBounds_toArray, List.set_cons_zero, List.set_cons_succ]
          refine wpAnyH_take (i := 3) (v := ?vp3) rfl (by kernel_rfl) (by kernel_rfl) (by kernel_rfl) (fun _ _ _ h => h) (Or.inl ⟨by rfl, ?hyp3⟩) (by assumption) ?restp3
          case hyp3 =>
            intro w hSw
            (try dsimp only at hSw)
            go_simp
            try with_reducible rfl
          try simp only [Act.put, List.getElem_toArray, List.getElem_cons_zero, List.getElem_cons_succ, List.setIfInBounds_toArray, List.set_cons_zero, List.set_cons_succ]
          refine wpAnyH_take (i := 4) (v := ?vp4) rfl (by kernel_rfl) (by kernel_rfl) (by kernel_rfl) (fun _ _ _ h => h) (Or.inl ⟨by rfl, ?hyp4⟩) (by assumption) ?restp4
          case hyp4 =>
            intro w hSw
            (try dsimp only at hSw)
            go_simp
            try with_reducible rfl
          try simp only [Act.put, List.getElem_toArray, List.getElem_cons_zero, List.getElem_cons_succ, List.setIfInBounds_toArray, List.set_cons_zero, List.set_cons_succ]
          refine wpAnyH_take (i := 5) (v := ?vp5) rfl (by kernel_rfl) (by kernel_rfl) (by kernel_rfl) (fun _ _ _ h => h) (Or.inl ⟨by rfl, ?hyp5⟩) (by assumption) ?restp5
          case hyp5 =>
            intro w hSw
            (try dsimp only at hSw)
            go_simp
            try with_reducible rfl
          try simp only [Act.put, List.getElem_toArray, List.getElem_cons_zero, List.getElem_cons_succ, List.setIfInBounds_toArray, List.set_cons_zero, List.set_cons_succ]
          refine wpAnyH_take (i := 6) (v := ?vp6) rfl (by kernel_rfl) (by kernel_rfl) (by kernel_rfl) (fun _ _ _ h => h) (Or.inl ⟨by rfl, ?hyp6⟩) (by assumption) ?restp6
          case hyp6 =>
            intro w hSw
            (try dsimp only at hSw)
            go_simp
            try with_reducible rfl
          try simp only [Act.put, List.getElem_toArray, List.getElem_cons_zero, List.getElem_cons_succ, List.setIfInBounds_toArray, List.set_cons_zero, List.set_cons_succ]
          refine wpAnyH_ready (rs := [2]) (by kernel_rfl) (by simp) ?_
          refine AllReadyH.cons rfl (fun K hK => ?_) AllReadyH.nil
          go_simp
          refine (rnew_any n (by omega) _).mono ?_
          rintro e W1 ⟨r, rfl, h1⟩
          have HX1 : Hid (Hv w No [devA d D, refA r (D0 n), blkA P5 31 #[.int .i64 xa, .int .i64 xs, .int .i64 xn]] W1) := (HI.out.drew.add h1).pick [1, 0, 2]
          clear h1 c0 c1 c2
          refine hK.out _ _ (HARS.out _ HX1.out.below) (fun hHeld1 => ?_)
          clear hK K
          try simp only [Act.put, List.getElem_toArray, List.getElem_cons_zero, List.getElem_cons_succ, List.setIfInBounds_toArray, List.set_cons_zero, List.set_cons_succ]
          refine wpAnyH_ready (rs := [7]) (by kernel_rfl) (by simp) ?_
          refine AllReadyH.cons rfl (fun K hK => ?_) AllReadyH.nil
          go_simp
          obtain ⟨T1, hT1, hJ1⟩ := Hv.use [devA d D, refA r (D0 n)] _ HX1.out
          refine (does_write s z (z % 256) (Lib.hid rfl) (Lib.hid (by have := HN.out.olen; omega)) (Lib.hid (Nat.zero_le _)) (Lib.hid hT1)).mono ?_
          rintro e W2 ⟨rfl, h2⟩
          have HX2 : Hid (Hv w No [devA d (writeF D s (z % 256)).2, blkA P5 31 #[.int .i64 xa, .int .i64 xs, .int .i64 xn]] W2) := (hJ1 _ _ h2).pick [0, 2]
          have HN2 : Hid (Inv n (k + 1) (writeF D s (z % 256)).2) := HN.out.write (by omega)
          clear h2 hT1 hJ1 HX1
          refine hK.out _ _ (HARS.out _ HX2.out.below) (fun hHeld2 => ?_)
          clear hK K
          try simp only [Act.put, List.getElem_toArray, List.getElem_cons_zero, List.getElem_cons_succ, List.setIfInBounds_toArray, List.set_cons_zero, List.set_cons_succ]
          refine wpAnyH_done (by kernel_rfl) ?_ _
          refine NoPanic.normal ?_
          clear hHeld hHeld1 hHeld2 HARS
          go_wp2
          go_roundw
          case rel => exact ⟨k + 1, by omega, rfl, _, HN2.out, HX2.out⟩
          case measure => simp [intOf]; omega
        · refine wp_region_held_drew (S := (fun W => W.cell? ⟨ab, ao + k * 3, none⟩ = some (.int .i64 2) ∧ W.cell? ⟨ab, ao + k * 3 + 1, none⟩ = some (.int .i64 s) ∧ W.cell? ⟨ab, ao + k * 3 + 2, none⟩ = some (.int .i64 z))) (by kernel_rfl) ⟨c0, c1, c2⟩ (fun hHeld => ?_)
          refine wpAnyH_take (i := 0) (v := ?vf0) rfl (by kernel_rfl) (by kernel_rfl) (by kernel_rfl) (fun _ _ _ h => h) (Or.inl ⟨by rfl, ?hyf0⟩) (by assumption) ?restf0
          case hyf0 =>
            intro w hSw
            (try dsimp only at hSw)
            go_simp
            try with_reducible rfl
          try simp only [Act.put, List.getElem_toArray, List.getElem_cons_zero, List.setIfInBounds_toArray, List.set_cons_zero, List.set_cons_succ]
          refine wpAnyH_take (i := 1) (v := ?vf1) rfl (by kernel_rfl) (by kernel_rfl) (by kernel_rfl) (fun _ _ _ h => h) (Or.inl ⟨by rfl, ?hyf1⟩) (by assumption) ?restf1
          case hyf1 =>
            intro w hSw
            (try dsimp only at hSw)
            go_simp
            try with_reducible rfl
          try simp only [Act.put, List.getElem_toArray, List.getElem_cons_zero, List.getElem_cons_succ, List.setIfInBounds_toArray, List.set_cons_zero, List.set_cons_succ]
          refine wpAnyH_take (i := 3) (v := ?vf3) rfl (by kernel_rfl) (by kernel_rfl) (by kernel_rfl) (fun _ _ _ h => h) (Or.inl ⟨by rfl, ?hyf3⟩) (by assumption) ?restf3
          case hyf3 =>
            intro w hSw
            (try dsimp only at hSw)
            go_simp
            try with_reducible rfl
          try simp only [Act.put, List.getElem_toArray, List.getElem_cons_zero, List.getElem_cons_succ, List.setIfInBounds_toArray, List.set_cons_zero, List.set_cons_succ]
          refine wpAnyH_take (i := 4) (v := ?vf4) rfl (by kernel_rfl) (by kernel_rfl) (by kernel_rfl) (fun _ _ _ h => h) (Or.inl ⟨by rfl, ?hyf4⟩) (by assumption) ?restf4
          case hyf4 =>
            intro w hSw
            (try dsimp only at hSw)
            go_simp
            try with_reducible rfl
          try simp only [Act.put, List.getElem_toArray, List.getElem_cons_zero, List.getElem_cons_succ, List.setIfInBounds_toArray, List.set_cons_zero, List.set_cons_succ]
          refine wpAnyH_take (i := 5) (v := ?vf5) rfl (by kernel_rfl) (by kernel_rfl) (by kernel_rfl) (fun _ _ _ h => h) (Or.inl ⟨by rfl, ?hyf5⟩) (by assumption) ?restf5
          case hyf5 =>
            intro w hSw
            (try dsimp only at hSw)
            go_simp
            try with_reducible rfl
          try simp only [Act.put, List.getElem_toArray, List.getElem_cons_zero, List.getElem_cons_succ, List.setIfInBounds_toArray, List.set_cons_zero, List.set_cons_succ]
          refine wpAnyH_take (i := 6) (v := ?vf6) rfl (by kernel_rfl) (by kernel_rfl) (by kernel_rfl) (fun _ _ _ h => h) (Or.inl ⟨by rfl, ?hyf6⟩) (by assumption) ?restf6
          case hyf6 =>
            intro w hSw
            (try dsimp only at hSw)
            go_simp
            try with_reducible rfl
          try simp only [Act.put, List.getElem_toArray, List.getElem_cons_zero, List.getElem_cons_succ, List.setIfInBounds_toArray, List.set_cons_zero, List.set_cons_succ]
          refine wpAnyH_ready (rs := [2]) (by kernel_rfl) (by simp) ?_
          refine AllReadyH.cons rfl (fun K hK => ?_) AllReadyH.nil
          go_simp
          refine (rnew_any n (by omega) _).mono ?_
          rintro e W1 ⟨r, rfl, h1⟩
          have HX1 : Hid (Hv w No [devA d D, refA r (D0 n), blkA P5 31 #[.int .i64 xa, .int .i64 xs, .int .i64 xn]] W1) := (HI.out.drew.add h1).pick [1, 0, 2]
          clear h1 c0 c1 c2
          refine hK.out _ _ (HARS.out _ HX1.out.below) (fun hHeld1 => ?_)
          clear hK K
          try simp only [Act.put, List.getElem_toArray, List.getElem_cons_zero, List.getElem_cons_succ, List.setIfInBounds_toArray, List.set_cons_zero, List.set_cons_succ]
          refine wpAnyH_ready (rs := [7]) (by kernel_rfl) (by simp) ?_
          refine AllReadyH.cons rfl (fun K hK => ?_) AllReadyH.nil
          go_simp
          obtain ⟨T1, hT1, hJ1⟩ := Hv.use [devA d D, refA r (D0 n)] _ HX1.out
          refine (does_flush s z (Lib.hid (by have := HN.out.olen; omega)) (Lib.hid (Nat.zero_le _)) (Lib.hid HN.out.ok) (Lib.hid (inv_new n).ok) (Lib.hid hT1)).mono ?_
          rintro e W2 ⟨rfl, h2⟩
          have HX2 : Hid (Hv w No [devA d (flushF D).2, blkA P5 31 #[.int .i64 xa, .int .i64 xs, .int .i64 xn]] W2) := (hJ1 _ _ h2).pick [0, 2]
          have HN2 : Hid (Inv n (k + 1) (flushF D).2) := HN.out.flush
          clear h2 hT1 hJ1 HX1
          refine hK.out _ _ (HARS.out _ HX2.out.below) (fun hHeld2 => ?_)
          clear hK K
          try simp only [Act.put, List.getElem_toArray, List.getElem_cons_zero, List.getElem_cons_succ, List.setIfInBounds_toArray, List.set_cons_zero, List.set_cons_succ]
          refine wpAnyH_done (by kernel_rfl) ?_ _
          refine NoPanic.normal ?_
          clear hHeld hHeld1 hHeld2 HARS
          go_wp2
          go_roundw
          case rel => exact ⟨k + 1, by omega, rfl, _, HN2.out, HX2.out⟩
          case measure => simp [intOf]; omega
      · have a0 : (ask == 0) = false := by rw [beq_eq_false_iff_ne]; omega
        have a2 : (ask == 2) = false := by rw [beq_eq_false_iff_ne]; omega
        have HN' : Hid (Inv n (k + 1) D) := HN.out.succ
        clear hw
        go_wp2
        go_roundw
        case rel => exact ⟨k + 1, by omega, rfl, _, HN'.out, HI.out⟩
        case measure => simp [intOf]; omega
    · obtain rfl : k = L := by omega
      clear hkl hk hA HL
      have HLB : Hid (D.opn.length ≤ 100000) := by show _ ≤ _; have := HN.out.olen; omega
      have HFN : Hid (D.firm ≠ [] ∧ D.firm.length ≤ 5000) := ⟨by intro e; have := HN.out.flen; rw [e] at this; simp at this; omega, by have := HN.out.flen; omega⟩
      have HTH : Hid (there D xs = true) := by
        show _ = _
        unfold there
        rw [HN.out.flen, decide_eq_true hxs.out.1, decide_eq_true hxs.out.2]
        rfl
      have HTN : Hid (¬ there D (n : Int) = true) := by
        show ¬ _
        unfold there
        rw [HN.out.flen, decide_eq_false (p := (n : Int) < (n : Int)) (by omega), Bool.and_false]
        simp
      go_wp2_with fail
      obtain ⟨T, hT, _⟩ := Hv.use [devA d D] _ HI.out
      refine (copy_any HFN HLB (Lib.hid HN.out.np) (Lib.hid hT)).mono ?_
      rintro e w3 ⟨c, rfl, h3⟩
      have HV3 : Hid (Hv w No [devA d D, devA c D, blkA P5 31 #[.int .i64 xa, .int .i64 xs, .int .i64 xn]] w3) := (HI.out.add h3).pick [1, 0, 2]
      clear h3 hT HI
      have c52 : w3.cell? ⟨P5, 2, none⟩ = some (.int .i64 xn) := by simpa using (HV3.out.blk (i := 2) rfl).cell 2
      cases hq : (xn.tmod 2 == 0) with
      | true =>
        have HPL : Hid (planF D [2, 2, 1] = (0, ⟨D.firm, D.opn, [2, 2, 1], false⟩)) := by
          show _ = _
          unfold planF planD
          rw [if_pos (by decide), HN.out.plan]
          rfl
        have HWR : Hid (writeF ⟨D.firm, D.opn, [2, 2, 1], false⟩ xs 77 = (0, ⟨D.firm, D.opn, [2, 1], false⟩)) := by
          show _ = _
          unfold writeF
          rw [if_pos (show there ⟨D.firm, D.opn, [2, 2, 1], false⟩ xs = true from HTH.out)]
          rfl
        have HFL : Hid (flushF ⟨D.firm, D.opn, [2, 1], false⟩ = (0, ⟨D.firm, D.opn, [1], false⟩)) := rfl
        have HRD : Hid (readF ⟨D.firm, D.opn, [1], false⟩ xs = (0, 19, ⟨D.firm, D.opn, [], false⟩)) := by
          show _ = _
          unfold readF
          rw [if_pos (show there ⟨D.firm, D.opn, [1], false⟩ xs = true from HTH.out)]
          rfl
        have HRN : Hid (readF ⟨D.firm, D.opn, [], false⟩ (n : Int) = (0, 10, ⟨D.firm, D.opn, [], false⟩)) := by
          show _ = _
          unfold readF
          rw [if_neg (show ¬ there ⟨D.firm, D.opn, [], false⟩ (n : Int) = true from HTN.out)]
        go_wp2_with fail
        obtain ⟨Pk, hPk⟩ : ∃ y, y = w3.heap.size := ⟨_, rfl⟩
        obtain ⟨Wk, hWk⟩ : ∃ y, y = w3.alloc (.cells #[.int .i64 2, .int .i64 2, .int .i64 1] 3) := ⟨_, rfl⟩
        have hq := HV3.out.alloc 3 #[.int .i64 2, .int .i64 2, .int .i64 1]
        rw [← hWk, ← hPk] at hq
        rw [← hWk, ← hPk]
        have hkb := hq.blk (i := 0) rfl
        have HV4 : Hid (Hv w No [devA d D, devA c D, blkA P5 31 #[.int .i64 xa, .int .i64 xs, .int .i64 xn]] Wk) := hq.pick [1, 2, 3]
        have hri : RowI Wk (.slice (some ⟨Pk, 0, none⟩) 3 3) [2, 2, 1] := .inr ⟨Pk, 0, 3, rfl, hkb.lt, fun j hj => by
          match j, hj with
          | 0, _ => simpa using hkb.cell 0
          | 1, _ => simpa using hkb.cell 1
          | 2, _ => simpa using hkb.cell 2⟩
        clear hq hWk hPk hkb HV3
        obtain ⟨T, hT, hJ⟩ := Hv.use [devA d D] _ HV4.out
        refine (plan_any [2, 2, 1] (Lib.hid hri) (Lib.hid (by rw [HN.out.plan]; decide)) (Lib.hid hT)).mono ?_
        rintro e w4 ⟨rfl, h5⟩
        rw [HPL.out] at h5 ⊢
        have HV5 : Hid (Hv w No [devA d ⟨D.firm, D.opn, [2, 2, 1], false⟩, devA c D, blkA P5 31 #[.int .i64 xa, .int .i64 xs, .int .i64 xn]] w4) := hJ _ _ h5
        clear h5 hT hJ HV4 hri c52
        go_wp2_with fail
        have HKP : Hid (∀ (DD : Dv) (W : World), Hv w No [devA d DD, devA c D, blkA P5 31 #[.int .i64 xa, .int .i64 xs, .int .i64 xn]] W → W.cell? ⟨P5, 1, none⟩ = some (.int .i64 xs)) := fun DD W hv => by simpa using (hv.blk (i := 2) rfl).cell 1
        have e1 := HKP.out _ _ HV5.out
        refine wp_region_noPanic ?_
        refine wp_region_held_drew (S := (fun W => W.cell? ⟨P5, 1, none⟩ = some (.int .i64 xs))) (by kernel_rfl) e1 (fun hHeld => ?_)
        clear e1
        refine wpAnyH_take (i := 0) (v := ?vj0) rfl (by kernel_rfl) (by kernel_rfl) (by kernel_rfl) (fun _ _ _ h => h) (Or.inl ⟨by rfl, ?hyj0⟩) (by assumption) ?restj0
        case hyj0 =>
          intro w hSw
          (try dsimp only at hSw)
          go_simp
          try with_reducible rfl
        try simp only [Act.put, List.getElem_toArray, List.getElem_cons_zero, List.setIfInBounds_toArray, List.set_cons_zero, List.set_cons_succ]
        refine wpAnyH_take (i := 1) (v := ?vj1) rfl (by kernel_rfl) (by kernel_rfl) (by kernel_rfl) (fun _ _ _ h => h) (Or.inl ⟨by rfl, ?hyj1⟩) (by assumption) ?restj1
        case hyj1 =>
          intro w hSw
          (try dsimp only at hSw)
          go_simp
          try with_reducible rfl
        try simp only [Act.put, List.getElem_toArray, List.getElem_cons_zero, List.getElem_cons_succ, List.setIfInBounds_toArray, List.set_cons_zero, List.set_cons_succ]
        refine wpAnyH_take (i := 2) (v := ?vj2) rfl (by kernel_rfl) (by kernel_rfl) (by kernel_rfl) (fun _ _ _ h => h) (Or.inl ⟨by rfl, ?hyj2⟩) (by assumption) ?restj2
        case hyj2 =>
          intro w hSw
          (try dsimp only at hSw)
          go_simp
          try with_reducible rfl
        try simp only [Act.put, List.getElem_toArray, List.getElem_cons_zero, List.getElem_cons_succ, List.setIfInBounds_toArray, List.set_cons_zero, List.set_cons_succ]
        refine wpAnyH_ready (rs := [3]) (by kernel_rfl) (by simp) ?_
        refine AllReadyH.cons rfl (fun K hK => ?_) AllReadyH.nil
        go_simp
        refine (mark_any 77 _).mono ?_
        rintro e wm ⟨rfl, hb⟩
        rw [show (77 : Int) % 256 = 77 from rfl]
        have HM := Lib.hid (HV5.out.drew.still hb)
        clear hb HV5
        refine hK.out _ _ (HKP.out _ _ HM.out) (fun hHeld1 => ?_)
        clear hK K
        try simp only [Act.put, List.getElem_toArray, List.getElem_cons_zero, List.getElem_cons_succ, List.setIfInBounds_toArray, List.set_cons_zero, List.set_cons_succ]
        refine wpAnyH_ready (rs := [4]) (by kernel_rfl) (by simp) ?_
        refine AllReadyH.cons rfl (fun K hK => ?_) AllReadyH.nil
        go_simp
        obtain ⟨T, hT, hJ⟩ := Hv.use [devA d ⟨D.firm, D.opn, [2, 2, 1], false⟩] _ HM.out
        refine (write_any (D := ⟨D.firm, D.opn, [2, 2, 1], false⟩) xs 77 HLB (Lib.hid hT)).mono ?_
        rintro e w5 ⟨rfl, h5⟩
        rw [HWR.out] at h5 ⊢
        have HV6 : Hid (Hv w No [devA d ⟨D.firm, D.opn, [2, 1], false⟩, devA c D, blkA P5 31 #[.int .i64 xa, .int .i64 xs, .int .i64 xn]] w5) := hJ _ _ h5
        clear h5 hT hJ HM
        refine hK.out _ _ (HKP.out _ _ HV6.out) (fun hHeld2 => ?_)
        clear hK K
        refine wpAnyH_take (i := 5) (v := ?vj5) rfl (by kernel_rfl) (by kernel_rfl) (by kernel_rfl) (fun _ _ _ h => h) (Or.inl ⟨by rfl, ?hyj5⟩) (by assumption) ?restj5
        case hyj5 =>
          intro w hSw
          (try dsimp only at hSw)
          go_simp
          try with_reducible rfl
        try simp only [Act.put, List.getElem_toArray, List.getElem_cons_zero, List.getElem_cons_succ, List.setIfInBounds_toArray, List.set_cons_zero, List.set_cons_succ]
        refine wpAnyH_done (by kernel_rfl) ?_ _
        refine NoPanic.normal ?_
        clear hHeld hHeld1 hHeld2 HKP
        go_wp2_with fail
        obtain ⟨T, hT, hJ⟩ := Hv.use [devA d ⟨D.firm, D.opn, [2, 1], false⟩] _ HV6.out
        refine (flush_any (D := ⟨D.firm, D.opn, [2, 1], false⟩) HLB (Lib.hid HN.out.ok) (Lib.hid hT)).mono ?_
        rintro e w6 ⟨rfl, h5⟩
        rw [HFL.out] at h5 ⊢
        have HV7 : Hid (Hv w No [devA d ⟨D.firm, D.opn, [1], false⟩, devA c D, blkA P5 31 #[.int .i64 xa, .int .i64 xs, .int .i64 xn]] w6) := hJ _ _ h5
        clear h5 hT hJ HV6
        have c51 : w6.cell? ⟨P5, 1, none⟩ = some (.int .i64 xs) := by simpa using (HV7.out.blk (i := 2) rfl).cell 1
        go_wp2_with fail
        obtain ⟨T, hT, hJ⟩ := Hv.use [devA d ⟨D.firm, D.opn, [1], false⟩] _ HV7.out
        refine (read_any (D := ⟨D.firm, D.opn, [1], false⟩) xs HLB (Lib.hid hT)).mono ?_
        rintro e w7 ⟨rfl, h5⟩
        rw [HRD.out] at h5 ⊢
        have HV8 : Hid (Hv w No [devA d ⟨D.firm, D.opn, [], false⟩, devA c D, blkA P5 31 #[.int .i64 xa, .int .i64 xs, .int .i64 xn]] w7) := hJ _ _ h5
        clear h5 hT hJ HV7 c51
        have hlb := laid_bl
        have hz := zero34
        have hml := markC_length
        go_wp2_with fail
        obtain ⟨P15, hP⟩ : ∃ y, y = w7.heap.size := ⟨_, rfl⟩
        obtain ⟨W15, hW⟩ : ∃ y, y = w7.alloc (.cells (markC 0).toArray 34) := ⟨_, rfl⟩
        have hq := HV8.out.alloc 34 (markC 0).toArray
        rw [← hW, ← hP] at hq
        rw [← hW, ← hP]
        have HW15 : Hid (Hv w No [devA d ⟨D.firm, D.opn, [], false⟩, devA c D, blkA P5 31 #[.int .i64 xa, .int .i64 xs, .int .i64 xn]] W15) := hq.pick [1, 2, 3]
        clear hq hW hP HV8
        obtain ⟨T, hT, hJ⟩ := Hv.use [devA d ⟨D.firm, D.opn, [], false⟩] _ HW15.out
        refine (read_any (D := ⟨D.firm, D.opn, [], false⟩) (n : Int) HLB (Lib.hid hT)).mono ?_
        rintro e w8 ⟨rfl, h5⟩
        rw [HRN.out] at h5 ⊢
        have HV9 : Hid (Hv w No [devA d ⟨D.firm, D.opn, [], false⟩, devA c D, blkA P5 31 #[.int .i64 xa, .int .i64 xs, .int .i64 xn]] w8) := hJ _ _ h5
        clear h5 hT hJ HW15
        go_wp2_with fail
        obtain ⟨P17, hP⟩ : ∃ y, y = w8.heap.size := ⟨_, rfl⟩
        obtain ⟨W17, hW⟩ : ∃ y, y = w8.alloc (.cells (markC 0).toArray 34) := ⟨_, rfl⟩
        have hq := HV9.out.alloc 34 (markC 0).toArray
        rw [← hW, ← hP] at hq
        rw [← hW, ← hP]
        have HW17 : Hid (Hv w No [devA d ⟨D.firm, D.opn, [], false⟩, devA c D, blkA P5 31 #[.int .i64 xa, .int .i64 xs, .int .i64 xn]] W17) := hq.pick [1, 2, 3]
        clear hq hW hP HV9
        obtain ⟨T, hT, _⟩ := Hv.use [devA d ⟨D.firm, D.opn, [], false⟩] _ HW17.out
        refine (planned_any (D := ⟨D.firm, D.opn, [], false⟩) (Lib.hid hT)).mono ?_
        rintro e w9 ⟨rfl, rfl⟩
        rw [show ((((⟨D.firm, D.opn, [], false⟩ : Dv).plan.length : Nat)) : Int) = 0 from rfl]
        clear hT
        go_wp2_with fail
        obtain ⟨T, hT, _⟩ := Hv.use [devA c D, devA d ⟨D.firm, D.opn, [], false⟩] _ (HW17.out.pick [1, 0, 2])
        refine (same_any (D := D) (E := ⟨D.firm, D.opn, [], false⟩) (Lib.hid HN.out.okb) (Lib.hid HN.out.okb) (Lib.hid (by have := HN.out.olen; have := HN.out.flen; omega)) (Lib.hid HN.out.plan) (Lib.hid rfl) (Lib.hid hT)).mono ?_
        rintro e w10 ⟨rfl, hb⟩
        rw [show (decide (D.firm = D.firm) && decide (D.opn = D.opn)) = true by rw [decide_eq_true rfl, decide_eq_true rfl]; rfl]
        have HZ := Lib.hid (HW17.out.still hb)
        clear hb hT HW17
        go_wp2_with fail
        refine (awake_any _).mono ?_
        rintro e w30 ⟨rfl, hb⟩
        have HB := Lib.hid (HZ.out.still hb).below
        clear hb
        go_wp2
        go_ret
        exact ⟨rfl, HB.out⟩
      | false =>
        have HPL : Hid (planF D [1, 1, 1] = (0, ⟨D.firm, D.opn, [1, 1, 1], false⟩)) := by
          show _ = _
          unfold planF planD
          rw [if_pos (by decide), HN.out.plan]
          rfl
        have HWR : Hid (writeF ⟨D.firm, D.opn, [1, 1, 1], false⟩ xs 77 = (20, ⟨D.firm, D.opn, [1, 1], false⟩)) := by
          show _ = _
          unfold writeF
          rw [if_pos (show there ⟨D.firm, D.opn, [1, 1, 1], false⟩ xs = true from HTH.out)]
          rfl
        have HFL : Hid (flushF ⟨D.firm, D.opn, [1, 1], false⟩ = (21, ⟨D.firm, D.opn, [1], false⟩)) := rfl
        have HRD : Hid (readF ⟨D.firm, D.opn, [1], false⟩ xs = (0, 19, ⟨D.firm, D.opn, [], false⟩)) := by
          show _ = _
          unfold readF
          rw [if_pos (show there ⟨D.firm, D.opn, [1], false⟩ xs = true from HTH.out)]
          rfl
        have HRN : Hid (readF ⟨D.firm, D.opn, [], false⟩ (n : Int) = (0, 10, ⟨D.firm, D.opn, [], false⟩)) := by
          show _ = _
          unfold readF
          rw [if_neg (show ¬ there ⟨D.firm, D.opn, [], false⟩ (n : Int) = true from HTN.out)]
        go_wp2_with fail
        obtain ⟨Pk, hPk⟩ : ∃ y, y = w3.heap.size := ⟨_, rfl⟩
        obtain ⟨Wk, hWk⟩ : ∃ y, y = w3.alloc (.cells #[.int .i64 1, .int .i64 1, .int .i64 1] 3) := ⟨_, rfl⟩
        have hq := HV3.out.alloc 3 #[.int .i64 1, .int .i64 1, .int .i64 1]
        rw [← hWk, ← hPk] at hq
        rw [← hWk, ← hPk]
        have hkb := hq.blk (i := 0) rfl
        have HV4 : Hid (Hv w No [devA d D, devA c D, blkA P5 31 #[.int .i64 xa, .int .i64 xs, .int .i64 xn]] Wk) := hq.pick [1, 2, 3]
        have hri : RowI Wk (.slice (some ⟨Pk, 0, none⟩) 3 3) [1, 1, 1] := .inr ⟨Pk, 0, 3, rfl, hkb.lt, fun j hj => by
          match j, hj with
          | 0, _ => simpa using hkb.cell 0
          | 1, _ => simpa using hkb.cell 1
          | 2, _ => simpa using hkb.cell 2⟩
        clear hq hWk hPk hkb HV3
        obtain ⟨T, hT, hJ⟩ := Hv.use [devA d D] _ HV4.out
        refine (plan_any [1, 1, 1] (Lib.hid hri) (Lib.hid (by rw [HN.out.plan]; decide)) (Lib.hid hT)).mono ?_
        rintro e w4 ⟨rfl, h5⟩
        rw [HPL.out] at h5 ⊢
        have HV5 : Hid (Hv w No [devA d ⟨D.firm, D.opn, [1, 1, 1], false⟩, devA c D, blkA P5 31 #[.int .i64 xa, .int .i64 xs, .int .i64 xn]] w4) := hJ _ _ h5
        clear h5 hT hJ HV4 hri c52
        go_wp2_with fail
        have HKP : Hid (∀ (DD : Dv) (W : World), Hv w No [devA d DD, devA c D, blkA P5 31 #[.int .i64 xa, .int .i64 xs, .int .i64 xn]] W → W.cell? ⟨P5, 1, none⟩ = some (.int .i64 xs)) := fun DD W hv => by simpa using (hv.blk (i := 2) rfl).cell 1
        have e1 := HKP.out _ _ HV5.out
        refine wp_region_noPanic ?_
        refine wp_region_held_drew (S := (fun W => W.cell? ⟨P5, 1, none⟩ = some (.int .i64 xs))) (by kernel_rfl) e1 (fun hHeld => ?_)
        clear e1
        refine wpAnyH_take (i := 0) (v := ?vi0) rfl (by kernel_rfl) (by kernel_rfl) (by kernel_rfl) (fun _ _ _ h => h) (Or.inl ⟨by rfl, ?hyi0⟩) (by assumption) ?resti0
        case hyi0 =>
          intro w hSw
          (try dsimp only at hSw)
          go_simp
          try with_reducible rfl
        try simp only [Act.put, List.getElem_toArray, List.getElem_cons_zero, List.setIfInBounds_toArray, List.set_cons_zero, List.set_cons_succ]
        refine wpAnyH_take (i := 1) (v := ?vi1) rfl (by kernel_rfl) (by kernel_rfl) (by kernel_rfl) (fun _ _ _ h => h) (Or.inl ⟨by rfl, ?hyi1⟩) (by assumption) ?resti1
        case hyi1 =>
          intro w hSw
          (try dsimp only at hSw)
          go_simp
          try with_reducible rfl
        try simp only [Act.put, List.getElem_toArray, List.getElem_cons_zero, List.getElem_cons_succ, List.setIfInBounds_toArray, List.set_cons_zero, List.set_cons_succ]
        refine wpAnyH_take (i := 2) (v := ?vi2) rfl (by kernel_rfl) (by kernel_rfl) (by kernel_rfl) (fun _ _ _ h => h) (Or.inl ⟨by rfl, ?hyi2⟩) (by assumption) ?resti2
        case hyi2 =>
          intro w hSw
          (try dsimp only at hSw)
          go_simp
          try with_reducible rfl
        try simp only [Act.put, List.getElem_toArray, List.getElem_cons_zero, List.getElem_cons_succ, List.setIfInBounds_toArray, List.set_cons_zero, List.set_cons_succ]
        refine wpAnyH_ready (rs := [3]) (by kernel_rfl) (by simp) ?_
        refine AllReadyH.cons rfl (fun K hK => ?_) AllReadyH.nil
        go_simp
        refine (mark_any 77 _).mono ?_
        rintro e wm ⟨rfl, hb⟩
        rw [show (77 : Int) % 256 = 77 from rfl]
        have HM := Lib.hid (HV5.out.drew.still hb)
        clear hb HV5
        refine hK.out _ _ (HKP.out _ _ HM.out) (fun hHeld1 => ?_)
        clear hK K
        try simp only [Act.put, List.getElem_toArray, List.getElem_cons_zero, List.getElem_cons_succ, List.setIfInBounds_toArray, List.set_cons_zero, List.set_cons_succ]
        refine wpAnyH_ready (rs := [4]) (by kernel_rfl) (by simp) ?_
        refine AllReadyH.cons rfl (fun K hK => ?_) AllReadyH.nil
        go_simp
        obtain ⟨T, hT, hJ⟩ := Hv.use [devA d ⟨D.firm, D.opn, [1, 1, 1], false⟩] _ HM.out
        refine (write_any (D := ⟨D.firm, D.opn, [1, 1, 1], false⟩) xs 77 HLB (Lib.hid hT)).mono ?_
        rintro e w5 ⟨rfl, h5⟩
        rw [HWR.out] at h5 ⊢
        have HV6 : Hid (Hv w No [devA d ⟨D.firm, D.opn, [1, 1], false⟩, devA c D, blkA P5 31 #[.int .i64 xa, .int .i64 xs, .int .i64 xn]] w5) := hJ _ _ h5
        clear h5 hT hJ HM
        refine hK.out _ _ (HKP.out _ _ HV6.out) (fun hHeld2 => ?_)
        clear hK K
        refine wpAnyH_take (i := 5) (v := ?vi5) rfl (by kernel_rfl) (by kernel_rfl) (by kernel_rfl) (fun _ _ _ h => h) (Or.inl ⟨by rfl, ?hyi5⟩) (by assumption) ?resti5
        case hyi5 =>
          intro w hSw
          (try dsimp only at hSw)
          go_simp
          try with_reducible rfl
        try simp only [Act.put, List.getElem_toArray, List.getElem_cons_zero, List.getElem_cons_succ, List.setIfInBounds_toArray, List.set_cons_zero, List.set_cons_succ]
        refine wpAnyH_done (by kernel_rfl) ?_ _
        refine NoPanic.normal ?_
        clear hHeld hHeld1 hHeld2 HKP
        go_wp2_with fail
        obtain ⟨T, hT, hJ⟩ := Hv.use [devA d ⟨D.firm, D.opn, [1, 1], false⟩] _ HV6.out
        refine (flush_any (D := ⟨D.firm, D.opn, [1, 1], false⟩) HLB (Lib.hid HN.out.ok) (Lib.hid hT)).mono ?_
        rintro e w6 ⟨rfl, h5⟩
        rw [HFL.out] at h5 ⊢
        have HV7 : Hid (Hv w No [devA d ⟨D.firm, D.opn, [1], false⟩, devA c D, blkA P5 31 #[.int .i64 xa, .int .i64 xs, .int .i64 xn]] w6) := hJ _ _ h5
        clear h5 hT hJ HV6
        have c51 : w6.cell? ⟨P5, 1, none⟩ = some (.int .i64 xs) := by simpa using (HV7.out.blk (i := 2) rfl).cell 1
        go_wp2_with fail
        obtain ⟨T, hT, hJ⟩ := Hv.use [devA d ⟨D.firm, D.opn, [1], false⟩] _ HV7.out
        refine (read_any (D := ⟨D.firm, D.opn, [1], false⟩) xs HLB (Lib.hid hT)).mono ?_
        rintro e w7 ⟨rfl, h5⟩
        rw [HRD.out] at h5 ⊢
        have HV8 : Hid (Hv w No [devA d ⟨D.firm, D.opn, [], false⟩, devA c D, blkA P5 31 #[.int .i64 xa, .int .i64 xs, .int .i64 xn]] w7) := hJ _ _ h5
        clear h5 hT hJ HV7 c51
        have hlb := laid_bl
        have hz := zero34
        have hml := markC_length
        go_wp2_with fail
        obtain ⟨P15, hP⟩ : ∃ y, y = w7.heap.size := ⟨_, rfl⟩
        obtain ⟨W15, hW⟩ : ∃ y, y = w7.alloc (.cells (markC 0).toArray 34) := ⟨_, rfl⟩
        have hq := HV8.out.alloc 34 (markC 0).toArray
        rw [← hW, ← hP] at hq
        rw [← hW, ← hP]
        have HW15 : Hid (Hv w No [devA d ⟨D.firm, D.opn, [], false⟩, devA c D, blkA P5 31 #[.int .i64 xa, .int .i64 xs, .int .i64 xn]] W15) := hq.pick [1, 2, 3]
        clear hq hW hP HV8
        obtain ⟨T, hT, hJ⟩ := Hv.use [devA d ⟨D.firm, D.opn, [], false⟩] _ HW15.out
        refine (read_any (D := ⟨D.firm, D.opn, [], false⟩) (n : Int) HLB (Lib.hid hT)).mono ?_
        rintro e w8 ⟨rfl, h5⟩
        rw [HRN.out] at h5 ⊢
        have HV9 : Hid (Hv w No [devA d ⟨D.firm, D.opn, [], false⟩, devA c D, blkA P5 31 #[.int .i64 xa, .int .i64 xs, .int .i64 xn]] w8) := hJ _ _ h5
        clear h5 hT hJ HW15
        go_wp2_with fail
        obtain ⟨P17, hP⟩ : ∃ y, y = w8.heap.size := ⟨_, rfl⟩
        obtain ⟨W17, hW⟩ : ∃ y, y = w8.alloc (.cells (markC 0).toArray 34) := ⟨_, rfl⟩
        have hq := HV9.out.alloc 34 (markC 0).toArray
        rw [← hW, ← hP] at hq
        rw [← hW, ← hP]
        have HW17 : Hid (Hv w No [devA d ⟨D.firm, D.opn, [], false⟩, devA c D, blkA P5 31 #[.int .i64 xa, .int .i64 xs, .int .i64 xn]] W17) := hq.pick [1, 2, 3]
        clear hq hW hP HV9
        obtain ⟨T, hT, _⟩ := Hv.use [devA d ⟨D.firm, D.opn, [], false⟩] _ HW17.out
        refine (planned_any (D := ⟨D.firm, D.opn, [], false⟩) (Lib.hid hT)).mono ?_
        rintro e w9 ⟨rfl, rfl⟩
        rw [show ((((⟨D.firm, D.opn, [], false⟩ : Dv).plan.length : Nat)) : Int) = 0 from rfl]
        clear hT
        go_wp2_with fail
        obtain ⟨T, hT, _⟩ := Hv.use [devA c D, devA d ⟨D.firm, D.opn, [], false⟩] _ (HW17.out.pick [1, 0, 2])
        refine (same_any (D := D) (E := ⟨D.firm, D.opn, [], false⟩) (Lib.hid HN.out.okb) (Lib.hid HN.out.okb) (Lib.hid (by have := HN.out.olen; have := HN.out.flen; omega)) (Lib.hid HN.out.plan) (Lib.hid rfl) (Lib.hid hT)).mono ?_
        rintro e w10 ⟨rfl, hb⟩
        rw [show (decide (D.firm = D.firm) && decide (D.opn = D.opn)) = true by rw [decide_eq_true rfl, decide_eq_true rfl]; rfl]
        have HZ := Lib.hid (HW17.out.still hb)
        clear hb hT HW17
        go_wp2_with fail
        refine (awake_any _).mono ?_
        rintro e w30 ⟨rfl, hb⟩
        have HB := Lib.hid (HZ.out.still hb).below
        clear hb
        go_wp2
        go_ret
        exact ⟨rfl, HB.out⟩
end Go.Proofs.Ytbfmgdkiigkioaa

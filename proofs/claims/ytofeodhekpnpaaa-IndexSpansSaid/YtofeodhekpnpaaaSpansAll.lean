/- IndexSpans: where the law looks no further, and all of it. -/
import Derived.Test.YtofeodhekpnpaaaSpans
namespace Go.Proofs.Ytofeodhekpnpaaa
open Go.RowKit Go.LawEnd Go.Shelf

set_option maxRecDepth 100000 in
set_option maxHeartbeats 6400000 in
theorem spans_out (A : Option Addr) (m cp : Nat) (fr N at_ : Int) (w : World) (hx : m ≤ maxLen) (h : 80 < m ∨ fr < 0 ∨ 20 < fr ∨ N < 0 ∨ 20 < N ∨ at_ < 0 ∨ N < at_) :
    Calls Try.prog 5 #[.slice A m cp, .agg #[.int .i64 fr, .int .i64 N], .int .i64 at_] w (Yes w) := by
  unfold maxLen at hx
  by_cases h0 : 80 < m
  · clear h
    have bt : decide (80 < (m : Int)) = true := decide_eq_true (by omega)
    refine (callsIn_wide (n := 9)).1 ?_
    refine callsIn_of_wp_marks Try.func5 rfl trivial ?_ rfl
    simp only [Try.ntmps5, List.size_toArray, List.length_cons, List.length_nil, Nat.reduceAdd, Nat.reduceSub, Array.replicate_succ, Array.replicate_zero, List.push_toArray, List.append_toArray, List.nil_append, List.cons_append]
    refine wpIn_wide.2 ?_
    go_wp2_with fail
    obtain ⟨P4, hP4⟩ : ∃ y, y = w.heap.size := ⟨_, rfl⟩
    obtain ⟨P6, hP6⟩ : ∃ y, y = w.heap.size + 1 := ⟨_, rfl⟩
    obtain ⟨w0, hw0⟩ : ∃ y, y = (w.alloc (.cells #[.int .i64 fr, .int .i64 N] 46)).alloc (.cells #[.bool false] 4) := ⟨_, rfl⟩
    rw [← hw0, ← hP6, ← hP4]
    have HV0 : Hid (Hv w No [blkA P6 4 #[.bool false], blkA P4 46 #[.int .i64 fr, .int .i64 N]] w0) := by
      have h := ((Hv.begin w).alloc 46 #[.int .i64 fr, .int .i64 N]).alloc 4 #[.bool false]
      rw [World.size_alloc] at h
      rw [hP6, hP4, hw0]; exact h
    clear hw0 hP4 hP6
    refine (new_yes 12 6 w0 (by omega) (by omega) (by omega) (by omega)).mono ?_
    rintro e w1 ⟨x, g, b, rfl, _, _, _, _, hbl⟩
    have HV1 := Lib.hid (HV0.out.still hbl)
    have s0 : w1.cell? ⟨P4, 0, none⟩ = some (.int .i64 fr) := by simpa using (HV1.out.blk (i := 1) rfl).cell 0
    have s1 : w1.cell? ⟨P4, 1, none⟩ = some (.int .i64 N) := by simpa using (HV1.out.blk (i := 1) rfl).cell 1
    clear hbl
    go_wp2_with fail
    refine (awake_any _).mono ?_
    rintro e W4 ⟨rfl, hb4⟩
    have HV10 := Lib.hid (HV1.out.still hb4)
    clear hb4 s0 s1 HV1
    have p1 : W4.cell? ⟨P6, 0, none⟩ = some (.bool false) := by simpa using (HV10.out.blk (i := 0) rfl).cell 0
    have p2 := (HV10.out.blk (i := 0) rfl).frozen 0
    have HV11 : Hid (Hv w No (blkA P6 4 #[.bool true] :: [blkA P4 46 #[.int .i64 fr, .int .i64 N]]) (W4.setCell ⟨P6, 0, none⟩ (.bool true))) := HV10.out.set 0 (.bool true)
    go_wp2
    have c6 := (HV11.out.blk (i := 0) rfl).cell 0
    simp only [List.getElem?_toArray, List.getElem?_cons_zero] at c6
    refine ⟨.bool true, ?_, rfl, HV11.out.below⟩
    rw [results_cell_one rfl]
    go_simp
  · have g0 := h.resolve_left h0
    clear h
    have h := g0
    clear g0
    have n0 : m ≤ 80 := by omega
    have f0 : decide (80 < (m : Int)) = false := decide_eq_false (by omega)
    clear h0
    by_cases h1 : fr < 0
    · clear h
      have bt : decide (fr < 0) = true := decide_eq_true h1
      refine (callsIn_wide (n := 9)).1 ?_
      refine callsIn_of_wp_marks Try.func5 rfl trivial ?_ rfl
      simp only [Try.ntmps5, List.size_toArray, List.length_cons, List.length_nil, Nat.reduceAdd, Nat.reduceSub, Array.replicate_succ, Array.replicate_zero, List.push_toArray, List.append_toArray, List.nil_append, List.cons_append]
      refine wpIn_wide.2 ?_
      go_wp2_with fail
      obtain ⟨P4, hP4⟩ : ∃ y, y = w.heap.size := ⟨_, rfl⟩
      obtain ⟨P6, hP6⟩ : ∃ y, y = w.heap.size + 1 := ⟨_, rfl⟩
      obtain ⟨w0, hw0⟩ : ∃ y, y = (w.alloc (.cells #[.int .i64 fr, .int .i64 N] 46)).alloc (.cells #[.bool false] 4) := ⟨_, rfl⟩
      rw [← hw0, ← hP6, ← hP4]
      have HV0 : Hid (Hv w No [blkA P6 4 #[.bool false], blkA P4 46 #[.int .i64 fr, .int .i64 N]] w0) := by
        have h := ((Hv.begin w).alloc 46 #[.int .i64 fr, .int .i64 N]).alloc 4 #[.bool false]
        rw [World.size_alloc] at h
        rw [hP6, hP4, hw0]; exact h
      clear hw0 hP4 hP6
      refine (new_yes 12 6 w0 (by omega) (by omega) (by omega) (by omega)).mono ?_
      rintro e w1 ⟨x, g, b, rfl, _, _, _, _, hbl⟩
      have HV1 := Lib.hid (HV0.out.still hbl)
      have s0 : w1.cell? ⟨P4, 0, none⟩ = some (.int .i64 fr) := by simpa using (HV1.out.blk (i := 1) rfl).cell 0
      have s1 : w1.cell? ⟨P4, 1, none⟩ = some (.int .i64 N) := by simpa using (HV1.out.blk (i := 1) rfl).cell 1
      clear hbl
      go_wp2_with fail
      refine (awake_any _).mono ?_
      rintro e W4 ⟨rfl, hb4⟩
      have HV10 := Lib.hid (HV1.out.still hb4)
      clear hb4 s0 s1 HV1
      have p1 : W4.cell? ⟨P6, 0, none⟩ = some (.bool false) := by simpa using (HV10.out.blk (i := 0) rfl).cell 0
      have p2 := (HV10.out.blk (i := 0) rfl).frozen 0
      have HV11 : Hid (Hv w No (blkA P6 4 #[.bool true] :: [blkA P4 46 #[.int .i64 fr, .int .i64 N]]) (W4.setCell ⟨P6, 0, none⟩ (.bool true))) := HV10.out.set 0 (.bool true)
      go_wp2
      have c6 := (HV11.out.blk (i := 0) rfl).cell 0
      simp only [List.getElem?_toArray, List.getElem?_cons_zero] at c6
      refine ⟨.bool true, ?_, rfl, HV11.out.below⟩
      rw [results_cell_one rfl]
      go_simp
    · have g1 := h.resolve_left h1
      clear h
      have h := g1
      clear g1
      have n1 : 0 ≤ fr := by omega
      have f1 : decide (fr < 0) = false := decide_eq_false h1
      clear h1
      by_cases h2 : 20 < fr
      · clear h
        have bt : decide (20 < fr) = true := decide_eq_true h2
        refine (callsIn_wide (n := 9)).1 ?_
        refine callsIn_of_wp_marks Try.func5 rfl trivial ?_ rfl
        simp only [Try.ntmps5, List.size_toArray, List.length_cons, List.length_nil, Nat.reduceAdd, Nat.reduceSub, Array.replicate_succ, Array.replicate_zero, List.push_toArray, List.append_toArray, List.nil_append, List.cons_append]
        refine wpIn_wide.2 ?_
        go_wp2_with fail
        obtain ⟨P4, hP4⟩ : ∃ y, y = w.heap.size := ⟨_, rfl⟩
        obtain ⟨P6, hP6⟩ : ∃ y, y = w.heap.size + 1 := ⟨_, rfl⟩
        obtain ⟨w0, hw0⟩ : ∃ y, y = (w.alloc (.cells #[.int .i64 fr, .int .i64 N] 46)).alloc (.cells #[.bool false] 4) := ⟨_, rfl⟩
        rw [← hw0, ← hP6, ← hP4]
        have HV0 : Hid (Hv w No [blkA P6 4 #[.bool false], blkA P4 46 #[.int .i64 fr, .int .i64 N]] w0) := by
          have h := ((Hv.begin w).alloc 46 #[.int .i64 fr, .int .i64 N]).alloc 4 #[.bool false]
          rw [World.size_alloc] at h
          rw [hP6, hP4, hw0]; exact h
        clear hw0 hP4 hP6
        refine (new_yes 12 6 w0 (by omega) (by omega) (by omega) (by omega)).mono ?_
        rintro e w1 ⟨x, g, b, rfl, _, _, _, _, hbl⟩
        have HV1 := Lib.hid (HV0.out.still hbl)
        have s0 : w1.cell? ⟨P4, 0, none⟩ = some (.int .i64 fr) := by simpa using (HV1.out.blk (i := 1) rfl).cell 0
        have s1 : w1.cell? ⟨P4, 1, none⟩ = some (.int .i64 N) := by simpa using (HV1.out.blk (i := 1) rfl).cell 1
        clear hbl
        go_wp2_with fail
        refine (awake_any _).mono ?_
        rintro e W4 ⟨rfl, hb4⟩
        have HV10 := Lib.hid (HV1.out.still hb4)
        clear hb4 s0 s1 HV1
        have p1 : W4.cell? ⟨P6, 0, none⟩ = some (.bool false) := by simpa using (HV10.out.blk (i := 0) rfl).cell 0
        have p2 := (HV10.out.blk (i := 0) rfl).frozen 0
        have HV11 : Hid (Hv w No (blkA P6 4 #[.bool true] :: [blkA P4 46 #[.int .i64 fr, .int .i64 N]]) (W4.setCell ⟨P6, 0, none⟩ (.bool true))) := HV10.out.set 0 (.bool true)
        go_wp2
        have c6 := (HV11.out.blk (i := 0) rfl).cell 0
        simp only [List.getElem?_toArray, List.getElem?_cons_zero] at c6
        refine ⟨.bool true, ?_, rfl, HV11.out.below⟩
        rw [results_cell_one rfl]
        go_simp
      · have g2 := h.resolve_left h2
        clear h
        have h := g2
        clear g2
        have n2 : fr ≤ 20 := by omega
        have f2 : decide (20 < fr) = false := decide_eq_false h2
        clear h2
        by_cases h3 : N < 0
        · clear h
          have bt : decide (N < 0) = true := decide_eq_true h3
          refine (callsIn_wide (n := 9)).1 ?_
          refine callsIn_of_wp_marks Try.func5 rfl trivial ?_ rfl
          simp only [Try.ntmps5, List.size_toArray, List.length_cons, List.length_nil, Nat.reduceAdd, Nat.reduceSub, Array.replicate_succ, Array.replicate_zero, List.push_toArray, List.append_toArray, List.nil_append, List.cons_append]
          refine wpIn_wide.2 ?_
          go_wp2_with fail
          obtain ⟨P4, hP4⟩ : ∃ y, y = w.heap.size := ⟨_, rfl⟩
          obtain ⟨P6, hP6⟩ : ∃ y, y = w.heap.size + 1 := ⟨_, rfl⟩
          obtain ⟨w0, hw0⟩ : ∃ y, y = (w.alloc (.cells #[.int .i64 fr, .int .i64 N] 46)).alloc (.cells #[.bool false] 4) := ⟨_, rfl⟩
          rw [← hw0, ← hP6, ← hP4]
          have HV0 : Hid (Hv w No [blkA P6 4 #[.bool false], blkA P4 46 #[.int .i64 fr, .int .i64 N]] w0) := by
            have h := ((Hv.begin w).alloc 46 #[.int .i64 fr, .int .i64 N]).alloc 4 #[.bool false]
            rw [World.size_alloc] at h
            rw [hP6, hP4, hw0]; exact h
          clear hw0 hP4 hP6
          refine (new_yes 12 6 w0 (by omega) (by omega) (by omega) (by omega)).mono ?_
          rintro e w1 ⟨x, g, b, rfl, _, _, _, _, hbl⟩
          have HV1 := Lib.hid (HV0.out.still hbl)
          have s0 : w1.cell? ⟨P4, 0, none⟩ = some (.int .i64 fr) := by simpa using (HV1.out.blk (i := 1) rfl).cell 0
          have s1 : w1.cell? ⟨P4, 1, none⟩ = some (.int .i64 N) := by simpa using (HV1.out.blk (i := 1) rfl).cell 1
          clear hbl
          go_wp2_with fail
          refine (awake_any _).mono ?_
          rintro e W4 ⟨rfl, hb4⟩
          have HV10 := Lib.hid (HV1.out.still hb4)
          clear hb4 s0 s1 HV1
          have p1 : W4.cell? ⟨P6, 0, none⟩ = some (.bool false) := by simpa using (HV10.out.blk (i := 0) rfl).cell 0
          have p2 := (HV10.out.blk (i := 0) rfl).frozen 0
          have HV11 : Hid (Hv w No (blkA P6 4 #[.bool true] :: [blkA P4 46 #[.int .i64 fr, .int .i64 N]]) (W4.setCell ⟨P6, 0, none⟩ (.bool true))) := HV10.out.set 0 (.bool true)
          go_wp2
          have c6 := (HV11.out.blk (i := 0) rfl).cell 0
          simp only [List.getElem?_toArray, List.getElem?_cons_zero] at c6
          refine ⟨.bool true, ?_, rfl, HV11.out.below⟩
          rw [results_cell_one rfl]
          go_simp
        · have g3 := h.resolve_left h3
          clear h
          have h := g3
          clear g3
          have n3 : 0 ≤ N := by omega
          have f3 : decide (N < 0) = false := decide_eq_false h3
          clear h3
          by_cases h4 : 20 < N
          · clear h
            have bt : decide (20 < N) = true := decide_eq_true h4
            refine (callsIn_wide (n := 9)).1 ?_
            refine callsIn_of_wp_marks Try.func5 rfl trivial ?_ rfl
            simp only [Try.ntmps5, List.size_toArray, List.length_cons, List.length_nil, Nat.reduceAdd, Nat.reduceSub, Array.replicate_succ, Array.replicate_zero, List.push_toArray, List.append_toArray, List.nil_append, List.cons_append]
            refine wpIn_wide.2 ?_
            go_wp2_with fail
            obtain ⟨P4, hP4⟩ : ∃ y, y = w.heap.size := ⟨_, rfl⟩
            obtain ⟨P6, hP6⟩ : ∃ y, y = w.heap.size + 1 := ⟨_, rfl⟩
            obtain ⟨w0, hw0⟩ : ∃ y, y = (w.alloc (.cells #[.int .i64 fr, .int .i64 N] 46)).alloc (.cells #[.bool false] 4) := ⟨_, rfl⟩
            rw [← hw0, ← hP6, ← hP4]
            have HV0 : Hid (Hv w No [blkA P6 4 #[.bool false], blkA P4 46 #[.int .i64 fr, .int .i64 N]] w0) := by
              have h := ((Hv.begin w).alloc 46 #[.int .i64 fr, .int .i64 N]).alloc 4 #[.bool false]
              rw [World.size_alloc] at h
              rw [hP6, hP4, hw0]; exact h
            clear hw0 hP4 hP6
            refine (new_yes 12 6 w0 (by omega) (by omega) (by omega) (by omega)).mono ?_
            rintro e w1 ⟨x, g, b, rfl, _, _, _, _, hbl⟩
            have HV1 := Lib.hid (HV0.out.still hbl)
            have s0 : w1.cell? ⟨P4, 0, none⟩ = some (.int .i64 fr) := by simpa using (HV1.out.blk (i := 1) rfl).cell 0
            have s1 : w1.cell? ⟨P4, 1, none⟩ = some (.int .i64 N) := by simpa using (HV1.out.blk (i := 1) rfl).cell 1
            clear hbl
            go_wp2_with fail
            refine (awake_any _).mono ?_
            rintro e W4 ⟨rfl, hb4⟩
            have HV10 := Lib.hid (HV1.out.still hb4)
            clear hb4 s0 s1 HV1
            have p1 : W4.cell? ⟨P6, 0, none⟩ = some (.bool false) := by simpa using (HV10.out.blk (i := 0) rfl).cell 0
            have p2 := (HV10.out.blk (i := 0) rfl).frozen 0
            have HV11 : Hid (Hv w No (blkA P6 4 #[.bool true] :: [blkA P4 46 #[.int .i64 fr, .int .i64 N]]) (W4.setCell ⟨P6, 0, none⟩ (.bool true))) := HV10.out.set 0 (.bool true)
            go_wp2
            have c6 := (HV11.out.blk (i := 0) rfl).cell 0
            simp only [List.getElem?_toArray, List.getElem?_cons_zero] at c6
            refine ⟨.bool true, ?_, rfl, HV11.out.below⟩
            rw [results_cell_one rfl]
            go_simp
          · have g4 := h.resolve_left h4
            clear h
            have h := g4
            clear g4
            have n4 : N ≤ 20 := by omega
            have f4 : decide (20 < N) = false := decide_eq_false h4
            clear h4
            by_cases h5 : at_ < 0
            · clear h
              have bt : decide (at_ < 0) = true := decide_eq_true h5
              refine (callsIn_wide (n := 9)).1 ?_
              refine callsIn_of_wp_marks Try.func5 rfl trivial ?_ rfl
              simp only [Try.ntmps5, List.size_toArray, List.length_cons, List.length_nil, Nat.reduceAdd, Nat.reduceSub, Array.replicate_succ, Array.replicate_zero, List.push_toArray, List.append_toArray, List.nil_append, List.cons_append]
              refine wpIn_wide.2 ?_
              go_wp2_with fail
              obtain ⟨P4, hP4⟩ : ∃ y, y = w.heap.size := ⟨_, rfl⟩
              obtain ⟨P6, hP6⟩ : ∃ y, y = w.heap.size + 1 := ⟨_, rfl⟩
              obtain ⟨w0, hw0⟩ : ∃ y, y = (w.alloc (.cells #[.int .i64 fr, .int .i64 N] 46)).alloc (.cells #[.bool false] 4) := ⟨_, rfl⟩
              rw [← hw0, ← hP6, ← hP4]
              have HV0 : Hid (Hv w No [blkA P6 4 #[.bool false], blkA P4 46 #[.int .i64 fr, .int .i64 N]] w0) := by
                have h := ((Hv.begin w).alloc 46 #[.int .i64 fr, .int .i64 N]).alloc 4 #[.bool false]
                rw [World.size_alloc] at h
                rw [hP6, hP4, hw0]; exact h
              clear hw0 hP4 hP6
              refine (new_yes 12 6 w0 (by omega) (by omega) (by omega) (by omega)).mono ?_
              rintro e w1 ⟨x, g, b, rfl, _, _, _, _, hbl⟩
              have HV1 := Lib.hid (HV0.out.still hbl)
              have s0 : w1.cell? ⟨P4, 0, none⟩ = some (.int .i64 fr) := by simpa using (HV1.out.blk (i := 1) rfl).cell 0
              have s1 : w1.cell? ⟨P4, 1, none⟩ = some (.int .i64 N) := by simpa using (HV1.out.blk (i := 1) rfl).cell 1
              clear hbl
              go_wp2_with fail
              refine (awake_any _).mono ?_
              rintro e W4 ⟨rfl, hb4⟩
              have HV10 := Lib.hid (HV1.out.still hb4)
              clear hb4 s0 s1 HV1
              have p1 : W4.cell? ⟨P6, 0, none⟩ = some (.bool false) := by simpa using (HV10.out.blk (i := 0) rfl).cell 0
              have p2 := (HV10.out.blk (i := 0) rfl).frozen 0
              have HV11 : Hid (Hv w No (blkA P6 4 #[.bool true] :: [blkA P4 46 #[.int .i64 fr, .int .i64 N]]) (W4.setCell ⟨P6, 0, none⟩ (.bool true))) := HV10.out.set 0 (.bool true)
              go_wp2
              have c6 := (HV11.out.blk (i := 0) rfl).cell 0
              simp only [List.getElem?_toArray, List.getElem?_cons_zero] at c6
              refine ⟨.bool true, ?_, rfl, HV11.out.below⟩
              rw [results_cell_one rfl]
              go_simp
            · have g5 := h.resolve_left h5
              clear h
              have h := g5
              clear g5
              have n5 : 0 ≤ at_ := by omega
              have f5 : decide (at_ < 0) = false := decide_eq_false h5
              clear h5
              have bt : decide (N < at_) = true := decide_eq_true h
              refine (callsIn_wide (n := 9)).1 ?_
              refine callsIn_of_wp_marks Try.func5 rfl trivial ?_ rfl
              simp only [Try.ntmps5, List.size_toArray, List.length_cons, List.length_nil, Nat.reduceAdd, Nat.reduceSub, Array.replicate_succ, Array.replicate_zero, List.push_toArray, List.append_toArray, List.nil_append, List.cons_append]
              refine wpIn_wide.2 ?_
              go_wp2_with fail
              obtain ⟨P4, hP4⟩ : ∃ y, y = w.heap.size := ⟨_, rfl⟩
              obtain ⟨P6, hP6⟩ : ∃ y, y = w.heap.size + 1 := ⟨_, rfl⟩
              obtain ⟨w0, hw0⟩ : ∃ y, y = (w.alloc (.cells #[.int .i64 fr, .int .i64 N] 46)).alloc (.cells #[.bool false] 4) := ⟨_, rfl⟩
              rw [← hw0, ← hP6, ← hP4]
              have HV0 : Hid (Hv w No [blkA P6 4 #[.bool false], blkA P4 46 #[.int .i64 fr, .int .i64 N]] w0) := by
                have h := ((Hv.begin w).alloc 46 #[.int .i64 fr, .int .i64 N]).alloc 4 #[.bool false]
                rw [World.size_alloc] at h
                rw [hP6, hP4, hw0]; exact h
              clear hw0 hP4 hP6
              refine (new_yes 12 6 w0 (by omega) (by omega) (by omega) (by omega)).mono ?_
              rintro e w1 ⟨x, g, b, rfl, _, _, _, _, hbl⟩
              have HV1 := Lib.hid (HV0.out.still hbl)
              have s0 : w1.cell? ⟨P4, 0, none⟩ = some (.int .i64 fr) := by simpa using (HV1.out.blk (i := 1) rfl).cell 0
              have s1 : w1.cell? ⟨P4, 1, none⟩ = some (.int .i64 N) := by simpa using (HV1.out.blk (i := 1) rfl).cell 1
              clear hbl
              go_wp2_with fail
              refine (awake_any _).mono ?_
              rintro e W4 ⟨rfl, hb4⟩
              have HV10 := Lib.hid (HV1.out.still hb4)
              clear hb4 s0 s1 HV1
              have p1 : W4.cell? ⟨P6, 0, none⟩ = some (.bool false) := by simpa using (HV10.out.blk (i := 0) rfl).cell 0
              have p2 := (HV10.out.blk (i := 0) rfl).frozen 0
              have HV11 : Hid (Hv w No (blkA P6 4 #[.bool true] :: [blkA P4 46 #[.int .i64 fr, .int .i64 N]]) (W4.setCell ⟨P6, 0, none⟩ (.bool true))) := HV10.out.set 0 (.bool true)
              go_wp2
              have c6 := (HV11.out.blk (i := 0) rfl).cell 0
              simp only [List.getElem?_toArray, List.getElem?_cons_zero] at c6
              refine ⟨.bool true, ?_, rfl, HV11.out.below⟩
              rw [results_cell_one rfl]
              go_simp
theorem spans_any (A : Option Addr) (m cp : Nat) (fr N at_ : Int) (w : World) (hx : m ≤ maxLen)
    (hops : ∀ k, k < m → ∃ b off a i s t, A = some ⟨b, off, none⟩ ∧ b < w.heap.size ∧ w.cell? ⟨b, off + k * 4, none⟩ = some (.int .i64 a) ∧ w.cell? ⟨b, off + k * 4 + 1, none⟩ = some (.int .i64 i) ∧ w.cell? ⟨b, off + k * 4 + 2, none⟩ = some (.int .i64 s) ∧ w.cell? ⟨b, off + k * 4 + 3, none⟩ = some (.bool t)) :
    Calls Try.prog 5 #[.slice A m cp, .agg #[.int .i64 fr, .int .i64 N], .int .i64 at_] w (Yes w) := by
  by_cases h : 80 < m ∨ fr < 0 ∨ 20 < fr ∨ N < 0 ∨ 20 < N ∨ at_ < 0 ∨ N < at_
  · exact spans_out A m cp fr N at_ w hx h
  · exact spans_main A m cp fr N at_ w (by omega) (by omega) (by omega) (by omega) (by omega) (by omega) (by omega) hops
end Go.Proofs.Ytofeodhekpnpaaa

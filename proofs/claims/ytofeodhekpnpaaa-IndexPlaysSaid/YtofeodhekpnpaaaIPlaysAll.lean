/- IndexPlays at whatever comes. -/
import Derived.Test.YtofeodhekpnpaaaIPlays
namespace Go.Proofs.Ytofeodhekpnpaaa
open Go.RowKit Go.LawEnd Go.Shelf

attribute [local go_sem] Oper.semAt_some
set_option maxRecDepth 100000 in
set_option maxHeartbeats 6400000 in
theorem iplays_big (A : Option Addr) (m cp : Nat) (a b : Int) (fr N : Int) (w : World) (h : (20 < a ∧ a ≤ 4096) ∨ (20 < b ∧ b ≤ 1024)) :
    Calls Try.prog 7 #[.agg #[.int .i64 a, .int .i64 b], .slice A m cp, .agg #[.int .i64 fr, .int .i64 N]] w (Yes w) := by
  refine (callsIn_wide (n := 9)).1 ?_
  refine callsIn_of_wp_marks Try.func7 rfl trivial ?_ rfl
  simp only [Try.ntmps7, List.size_toArray, List.length_cons, List.length_nil, Nat.reduceAdd, Nat.reduceSub, Array.replicate_succ, Array.replicate_zero, List.push_toArray, List.append_toArray, List.nil_append, List.cons_append]
  refine wpIn_wide.2 ?_
  obtain ⟨P3, hP3⟩ : ∃ y, y = w.heap.size := ⟨_, rfl⟩
  obtain ⟨P5, hP5⟩ : ∃ y, y = w.heap.size + 1 := ⟨_, rfl⟩
  obtain ⟨P6, hP6⟩ : ∃ y, y = w.heap.size + 1 + 1 := ⟨_, rfl⟩
  obtain ⟨w0, hw0⟩ : ∃ y, y = ((w.alloc (.cells #[.int .i64 a, .int .i64 b] 55)).alloc (.cells #[.int .i64 fr, .int .i64 N] 46)).alloc (.cells #[.bool false] 4) := ⟨_, rfl⟩
  have HV0 : Hid (Hv w No [blkA P6 4 #[.bool false], blkA P5 46 #[.int .i64 fr, .int .i64 N], blkA P3 55 #[.int .i64 a, .int .i64 b]] w0) := by
    have h := (((Hv.begin w).alloc 55 #[.int .i64 a, .int .i64 b]).alloc 46 #[.int .i64 fr, .int .i64 N]).alloc 4 #[.bool false]
    rw [World.size_alloc, World.size_alloc] at h
    rw [hP6, hP5, hP3, hw0]; exact h
  obtain ⟨v1, hv1⟩ : ∃ v1, decide (20 < a) = v1 := ⟨_, rfl⟩
  obtain ⟨v2, hv2⟩ : ∃ v2, decide (a ≤ 4096) = v2 := ⟨_, rfl⟩
  have hor : (v1 && v2) = true ∨ ((v1 && v2) = false ∧ decide (20 < b) = true ∧ decide (b ≤ 1024) = true) := by
    rw [← hv1, ← hv2]
    by_cases h1 : 20 < a ∧ a ≤ 4096
    · left; rw [decide_eq_true h1.1, decide_eq_true h1.2]; rfl
    · right
      have h2 : 20 < b ∧ b ≤ 1024 := h.resolve_left h1
      refine ⟨?_, decide_eq_true h2.1, decide_eq_true h2.2⟩
      rw [Bool.and_eq_false_iff, decide_eq_false_iff_not, decide_eq_false_iff_not]
      omega
  clear h
  cases v1 <;> cases v2
  · obtain ⟨_, b1, b2⟩ := hor.resolve_left (by simp)
    clear hor
    go_wp2_with fail
    rw [← hw0]
    simp only [Nat.add_assoc, Nat.reduceAdd] at hP6 ⊢
    rw [← hP6, ← hP5, ← hP3]
    clear hP3 hP5 hP6 hw0
    refine (awake_any _).mono ?_
    rintro e w6 ⟨rfl, hb6⟩
    have HV6 : Hid (Hv w No [blkA P6 4 #[.bool false]] w6) := (HV0.out.still hb6).pick [0]
    clear hb6 HV0
    have c9 : w6.cell? ⟨P6, 0, none⟩ = some (.bool false) := by simpa using (HV6.out.blk (i := 0) rfl).cell 0
    have c10 := (HV6.out.blk (i := 0) rfl).frozen 0
    have HV8 := HV6.out.set 0 (.bool true)
    have c7 := (HV8.blk (i := 0) rfl).cell 0
    simp only [Array.setIfInBounds, List.size_toArray, List.length_cons, List.length_nil, Nat.zero_lt_succ, ↓reduceDIte] at c7
    have HB8 := Lib.hid HV8.below
    clear HV8
    go_wp2
    refine ⟨.bool true, ?_, rfl, HB8.out⟩
    rw [results_cell_one rfl]
    go_simp
  · obtain ⟨_, b1, b2⟩ := hor.resolve_left (by simp)
    clear hor
    go_wp2_with fail
    rw [← hw0]
    simp only [Nat.add_assoc, Nat.reduceAdd] at hP6 ⊢
    rw [← hP6, ← hP5, ← hP3]
    clear hP3 hP5 hP6 hw0
    refine (awake_any _).mono ?_
    rintro e w6 ⟨rfl, hb6⟩
    have HV6 : Hid (Hv w No [blkA P6 4 #[.bool false]] w6) := (HV0.out.still hb6).pick [0]
    clear hb6 HV0
    have c9 : w6.cell? ⟨P6, 0, none⟩ = some (.bool false) := by simpa using (HV6.out.blk (i := 0) rfl).cell 0
    have c10 := (HV6.out.blk (i := 0) rfl).frozen 0
    have HV8 := HV6.out.set 0 (.bool true)
    have c7 := (HV8.blk (i := 0) rfl).cell 0
    simp only [Array.setIfInBounds, List.size_toArray, List.length_cons, List.length_nil, Nat.zero_lt_succ, ↓reduceDIte] at c7
    have HB8 := Lib.hid HV8.below
    clear HV8
    go_wp2
    refine ⟨.bool true, ?_, rfl, HB8.out⟩
    rw [results_cell_one rfl]
    go_simp
  · obtain ⟨_, b1, b2⟩ := hor.resolve_left (by simp)
    clear hor
    go_wp2_with fail
    rw [← hw0]
    simp only [Nat.add_assoc, Nat.reduceAdd] at hP6 ⊢
    rw [← hP6, ← hP5, ← hP3]
    clear hP3 hP5 hP6 hw0
    refine (awake_any _).mono ?_
    rintro e w6 ⟨rfl, hb6⟩
    have HV6 : Hid (Hv w No [blkA P6 4 #[.bool false]] w6) := (HV0.out.still hb6).pick [0]
    clear hb6 HV0
    have c9 : w6.cell? ⟨P6, 0, none⟩ = some (.bool false) := by simpa using (HV6.out.blk (i := 0) rfl).cell 0
    have c10 := (HV6.out.blk (i := 0) rfl).frozen 0
    have HV8 := HV6.out.set 0 (.bool true)
    have c7 := (HV8.blk (i := 0) rfl).cell 0
    simp only [Array.setIfInBounds, List.size_toArray, List.length_cons, List.length_nil, Nat.zero_lt_succ, ↓reduceDIte] at c7
    have HB8 := Lib.hid HV8.below
    clear HV8
    go_wp2
    refine ⟨.bool true, ?_, rfl, HB8.out⟩
    rw [results_cell_one rfl]
    go_simp
  · clear hor
    go_wp2_with fail
    rw [← hw0]
    simp only [Nat.add_assoc, Nat.reduceAdd] at hP6 ⊢
    rw [← hP6, ← hP5, ← hP3]
    clear hP3 hP5 hP6 hw0
    refine (awake_any _).mono ?_
    rintro e w6 ⟨rfl, hb6⟩
    have HV6 : Hid (Hv w No [blkA P6 4 #[.bool false]] w6) := (HV0.out.still hb6).pick [0]
    clear hb6 HV0
    have c9 : w6.cell? ⟨P6, 0, none⟩ = some (.bool false) := by simpa using (HV6.out.blk (i := 0) rfl).cell 0
    have c10 := (HV6.out.blk (i := 0) rfl).frozen 0
    have HV8 := HV6.out.set 0 (.bool true)
    have c7 := (HV8.blk (i := 0) rfl).cell 0
    simp only [Array.setIfInBounds, List.size_toArray, List.length_cons, List.length_nil, Nat.zero_lt_succ, ↓reduceDIte] at c7
    have HB8 := Lib.hid HV8.below
    clear HV8
    go_wp2
    refine ⟨.bool true, ?_, rfl, HB8.out⟩
    rw [results_cell_one rfl]
    go_simp
set_option maxRecDepth 100000 in
set_option maxHeartbeats 6400000 in
theorem iplays_bad (A : Option Addr) (m cp : Nat) (a b : Int) (fr N : Int) (w : World) (h : ¬ ((20 < a ∧ a ≤ 4096) ∨ (20 < b ∧ b ≤ 1024))) (h2 : a < 1 ∨ 4096 < a ∨ b < 1 ∨ 1024 < b) :
    Calls Try.prog 7 #[.agg #[.int .i64 a, .int .i64 b], .slice A m cp, .agg #[.int .i64 fr, .int .i64 N]] w (Yes w) := by
  refine (callsIn_wide (n := 9)).1 ?_
  refine callsIn_of_wp_marks Try.func7 rfl trivial ?_ rfl
  simp only [Try.ntmps7, List.size_toArray, List.length_cons, List.length_nil, Nat.reduceAdd, Nat.reduceSub, Array.replicate_succ, Array.replicate_zero, List.push_toArray, List.append_toArray, List.nil_append, List.cons_append]
  refine wpIn_wide.2 ?_
  obtain ⟨P3, hP3⟩ : ∃ y, y = w.heap.size := ⟨_, rfl⟩
  obtain ⟨P5, hP5⟩ : ∃ y, y = w.heap.size + 1 := ⟨_, rfl⟩
  obtain ⟨P6, hP6⟩ : ∃ y, y = w.heap.size + 1 + 1 := ⟨_, rfl⟩
  obtain ⟨w0, hw0⟩ : ∃ y, y = ((w.alloc (.cells #[.int .i64 a, .int .i64 b] 55)).alloc (.cells #[.int .i64 fr, .int .i64 N] 46)).alloc (.cells #[.bool false] 4) := ⟨_, rfl⟩
  have HV0 : Hid (Hv w No [blkA P6 4 #[.bool false], blkA P5 46 #[.int .i64 fr, .int .i64 N], blkA P3 55 #[.int .i64 a, .int .i64 b]] w0) := by
    have h := (((Hv.begin w).alloc 55 #[.int .i64 a, .int .i64 b]).alloc 46 #[.int .i64 fr, .int .i64 N]).alloc 4 #[.bool false]
    rw [World.size_alloc, World.size_alloc] at h
    rw [hP6, hP5, hP3, hw0]; exact h
  have HNO := Lib.hid (new_no a b w0 h2)
  obtain ⟨v1, hv1⟩ : ∃ v1, decide (20 < a) = v1 := ⟨_, rfl⟩
  obtain ⟨v2, hv2⟩ : ∃ v2, decide (a ≤ 4096) = v2 := ⟨_, rfl⟩
  obtain ⟨v3, hv3⟩ : ∃ v3, decide (20 < b) = v3 := ⟨_, rfl⟩
  obtain ⟨v4, hv4⟩ : ∃ v4, decide (b ≤ 1024) = v4 := ⟨_, rfl⟩
  obtain ⟨u1, hu1⟩ : ∃ u1, decide (a < 1) = u1 := ⟨_, rfl⟩
  obtain ⟨u3, hu3⟩ : ∃ u3, decide (b < 1) = u3 := ⟨_, rfl⟩
  have hu2 : decide (4096 < a) = !v2 := by rw [← hv2]; by_cases h : a ≤ 4096 <;> simp [h] <;> omega
  have hu4 : decide (1024 < b) = !v4 := by rw [← hv4]; by_cases h : b ≤ 1024 <;> simp [h] <;> omega
  have hnb : (v1 && v2) = false ∧ (v3 && v4) = false := by
    rw [← hv1, ← hv2, ← hv3, ← hv4, Bool.and_eq_false_iff, Bool.and_eq_false_iff, decide_eq_false_iff_not, decide_eq_false_iff_not, decide_eq_false_iff_not, decide_eq_false_iff_not]
    omega
  have hbd : (u1 || !v2 || u3 || !v4) = true := by
    rw [← hu2, ← hu4, ← hu1, ← hu3]
    simp only [Bool.or_eq_true, decide_eq_true_eq]
    omega
  clear h h2
  cases v1 <;> cases v2 <;> cases v3 <;> cases v4 <;> cases u1 <;> cases u3
  all_goals first
    | (exact absurd hnb.1 (by decide))
    | (exact absurd hnb.2 (by decide))
    | (exact absurd hbd (by decide))
    | (clear hnb hbd
       simp only [Bool.not_true, Bool.not_false] at hu2 hu4
       go_wp2_with fail
       rw [← hw0]
       simp only [Nat.add_assoc, Nat.reduceAdd] at hP6 ⊢
       rw [← hP6, ← hP5, ← hP3]
       clear hP3 hP5 hP6 hw0
       refine HNO.out.mono ?_
       rintro e w1 ⟨rfl, rfl⟩
       clear HNO
       have k0 : w0.cell? ⟨P3, 0, none⟩ = some (.int .i64 a) := by simpa using (HV0.out.blk (i := 2) rfl).cell 0
       have k1 : w0.cell? ⟨P3, 1, none⟩ = some (.int .i64 b) := by simpa using (HV0.out.blk (i := 2) rfl).cell 1
       go_wp2_with fail
       refine (awake_any _).mono ?_
       rintro e w6 ⟨rfl, hb6⟩
       have HV6 : Hid (Hv w No [blkA P6 4 #[.bool false]] w6) := (HV0.out.still hb6).pick [0]
       clear hb6 HV0
       have c9 : w6.cell? ⟨P6, 0, none⟩ = some (.bool false) := by simpa using (HV6.out.blk (i := 0) rfl).cell 0
       have c10 := (HV6.out.blk (i := 0) rfl).frozen 0
       have HV8 := HV6.out.set 0 (.bool true)
       have c7 := (HV8.blk (i := 0) rfl).cell 0
       simp only [Array.setIfInBounds, List.size_toArray, List.length_cons, List.length_nil, Nat.zero_lt_succ, ↓reduceDIte] at c7
       have HB8 := Lib.hid HV8.below
       clear HV8
       go_wp2
       refine ⟨.bool true, ?_, rfl, HB8.out⟩
       rw [results_cell_one rfl]
       go_simp)
    | fail
set_option maxRecDepth 100000 in
set_option maxHeartbeats 6400000 in
theorem iplays_many (A : Option Addr) (m cp : Nat) (a b : Nat) (fr N : Int) (w : World) (hm : 80 < m) (ha : 1 ≤ a ∧ a ≤ 20) (hb : 1 ≤ b ∧ b ≤ 20) :
    Calls Try.prog 7 #[.agg #[.int .i64 (a : Int), .int .i64 (b : Int)], .slice A m cp, .agg #[.int .i64 fr, .int .i64 N]] w (Yes w) := by
  refine (callsIn_wide (n := 9)).1 ?_
  refine callsIn_of_wp_marks Try.func7 rfl trivial ?_ rfl
  simp only [Try.ntmps7, List.size_toArray, List.length_cons, List.length_nil, Nat.reduceAdd, Nat.reduceSub, Array.replicate_succ, Array.replicate_zero, List.push_toArray, List.append_toArray, List.nil_append, List.cons_append]
  refine wpIn_wide.2 ?_
  obtain ⟨P3, hP3⟩ : ∃ y, y = w.heap.size := ⟨_, rfl⟩
  obtain ⟨P5, hP5⟩ : ∃ y, y = w.heap.size + 1 := ⟨_, rfl⟩
  obtain ⟨P6, hP6⟩ : ∃ y, y = w.heap.size + 1 + 1 := ⟨_, rfl⟩
  obtain ⟨w0, hw0⟩ : ∃ y, y = ((w.alloc (.cells #[.int .i64 (a : Int), .int .i64 (b : Int)] 55)).alloc (.cells #[.int .i64 fr, .int .i64 N] 46)).alloc (.cells #[.bool false] 4) := ⟨_, rfl⟩
  have HV0 : Hid (Hv w No [blkA P6 4 #[.bool false], blkA P5 46 #[.int .i64 fr, .int .i64 N], blkA P3 55 #[.int .i64 (a : Int), .int .i64 (b : Int)]] w0) := by
    have h := (((Hv.begin w).alloc 55 #[.int .i64 (a : Int), .int .i64 (b : Int)]).alloc 46 #[.int .i64 fr, .int .i64 N]).alloc 4 #[.bool false]
    rw [World.size_alloc, World.size_alloc] at h
    rw [hP6, hP5, hP3, hw0]; exact h
  have d1 : decide ((20 : Int) < (a : Int)) = false := decide_eq_false (by omega)
  have d2 : decide ((20 : Int) < (b : Int)) = false := decide_eq_false (by omega)
  have d3 : decide ((a : Int) < 1) = false := decide_eq_false (by omega)
  have d4 : decide ((4096 : Int) < (a : Int)) = false := decide_eq_false (by omega)
  have d5 : decide ((b : Int) < 1) = false := decide_eq_false (by omega)
  have d6 : decide ((1024 : Int) < (b : Int)) = false := decide_eq_false (by omega)
  have d7 : decide ((80 : Int) < (m : Int)) = true := decide_eq_true (by omega)
  go_wp2_with fail
  rw [← hw0]
  simp only [Nat.add_assoc, Nat.reduceAdd] at hP6 ⊢
  rw [← hP6, ← hP5, ← hP3]
  clear hP3 hP5 hP6 hw0
  refine (new_yes a b w0 (by omega) (by omega) (by omega) (by omega)).mono ?_
  rintro e w1 ⟨x, g, bm, rfl, _, _, _, _, hbl⟩
  have HV1 := Lib.hid (HV0.out.still hbl)
  clear hbl HV0
  have HV0 := HV1
  clear HV1
  have k0 : w1.cell? ⟨P3, 0, none⟩ = some (.int .i64 (a : Int)) := by simpa using (HV0.out.blk (i := 2) rfl).cell 0
  have k1 : w1.cell? ⟨P3, 1, none⟩ = some (.int .i64 (b : Int)) := by simpa using (HV0.out.blk (i := 2) rfl).cell 1
  go_wp2_with fail
  refine (awake_any _).mono ?_
  rintro e w6 ⟨rfl, hb6⟩
  have HV6 : Hid (Hv w No [blkA P6 4 #[.bool false]] w6) := (HV0.out.still hb6).pick [0]
  clear hb6 HV0
  have c9 : w6.cell? ⟨P6, 0, none⟩ = some (.bool false) := by simpa using (HV6.out.blk (i := 0) rfl).cell 0
  have c10 := (HV6.out.blk (i := 0) rfl).frozen 0
  have HV8 := HV6.out.set 0 (.bool true)
  have c7 := (HV8.blk (i := 0) rfl).cell 0
  simp only [Array.setIfInBounds, List.size_toArray, List.length_cons, List.length_nil, Nat.zero_lt_succ, ↓reduceDIte] at c7
  have HB8 := Lib.hid HV8.below
  clear HV8
  go_wp2
  refine ⟨.bool true, ?_, rfl, HB8.out⟩
  rw [results_cell_one rfl]
  go_simp

theorem iplays_any (A : Option Addr) (m cp : Nat) (a b : Int) (fr N : Int) (w : World) (hm : m ≤ 9223372036854775807) (hfr : fr ≤ 9223372036854775807)
    (hops : Hid (∀ k, k < m → ∃ b off a i s t, A = some ⟨b, off, none⟩ ∧ b < w.heap.size ∧ w.cell? ⟨b, off + k * 4, none⟩ = some (.int .i64 a) ∧ w.cell? ⟨b, off + k * 4 + 1, none⟩ = some (.int .i64 i) ∧ w.cell? ⟨b, off + k * 4 + 2, none⟩ = some (.int .i64 s) ∧ w.cell? ⟨b, off + k * 4 + 3, none⟩ = some (.bool t))) :
    Calls Try.prog 7 #[.agg #[.int .i64 a, .int .i64 b], .slice A m cp, .agg #[.int .i64 fr, .int .i64 N]] w (Yes w) := by
  by_cases h : (20 < a ∧ a ≤ 4096) ∨ (20 < b ∧ b ≤ 1024)
  · exact iplays_big A m cp a b fr N w h
  · by_cases h2 : a < 1 ∨ 4096 < a ∨ b < 1 ∨ 1024 < b
    · exact iplays_bad A m cp a b fr N w h h2
    · obtain ⟨a', rfl⟩ : ∃ n : Nat, a = n := ⟨a.toNat, by omega⟩
      obtain ⟨b', rfl⟩ : ∃ n : Nat, b = n := ⟨b.toNat, by omega⟩
      by_cases h3 : m ≤ 80
      · exact iplays_main A m cp a' b' fr N w h3 (by omega) (by omega) hfr hops
      · exact iplays_many A m cp a' b' fr N w (by omega) (by omega) (by omega)
end Go.Proofs.Ytofeodhekpnpaaa

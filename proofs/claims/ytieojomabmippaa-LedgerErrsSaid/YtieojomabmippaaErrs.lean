/- The walk of LedgerErrs. -/
import Derived.Test.YtieojomabmippaaAwake
namespace Go.Proofs.Ytieojomabmippaa
open Go.RowKit Go.LawEnd

abbrev two (a b : Int) : Value := .agg #[.int .i64 a, .int .i64 b]
set_option maxRecDepth 100000 in
set_option maxHeartbeats 6400000 in
theorem errs_no1 (a b p q : Int) (w : World) (e1 : decide (a < 1) = true) : Calls Try.prog 5 #[two a b, two p q] w (Yes w) := by
  have HV : Hid (Hv w No [] w) := Hv.begin w
  have hbad : Hid (a < 1 ∨ 1024 < a ∨ b < 1 ∨ 4096 < b) := (.inl (of_decide_eq_true e1))
  go_enter Try.func5, Try.ntmps5
  go_wp2_with fail
  refine (new_no a b _ hbad).mono ?_
  rintro e w2 ⟨rfl, rfl⟩
  go_wp2_with fail
  refine (owners_nil p _).mono ?_
  rintro e w2 ⟨rfl, rfl⟩
  go_wp2_with fail
  refine (put_nil p q _).mono ?_
  rintro e w2 ⟨rfl, rfl⟩
  go_wp2_with fail
  refine (scrub_nil p _).mono ?_
  rintro e w2 ⟨rfl, rfl⟩
  go_wp2_with fail
  refine (may_nil p q 1 _).mono ?_
  rintro e w2 ⟨rfl, hb2⟩
  have hq := ((((HV.out.alloc_ _).alloc_ _).alloc _ _).still hb2).blk (i := 0) rfl
  simp only [World.size_alloc] at hq
  have k0 := hq.cell 0
  have k1 := hq.cell 1
  simp only [List.getElem?_toArray, List.getElem?_cons_zero, List.getElem?_cons_succ] at k0 k1
  clear hq
  go_wp2_with fail
  refine (slots_nil q 1 _).mono ?_
  rintro e w3 ⟨rfl, hb3⟩
  go_wp2_with fail
  refine (encode_nil _).mono ?_
  rintro e w3 ⟨rfl, rfl⟩
  go_wp2_with fail
  refine (copy_nil _).mono ?_
  rintro e w3 ⟨rfl, rfl⟩
  go_wp2_with fail
  refine (same_nil _).mono ?_
  rintro e w3 ⟨rfl, rfl⟩
  go_wp2_with fail
  refine (awake_any _).mono ?_
  rintro e w4 ⟨rfl, hb4⟩
  have HB := Lib.hid (((((((HV.out.alloc_ _).alloc_ _).alloc_ _).still hb2).still hb3).still hb4).below)
  clear hb2 hb3 hb4
  go_wp2
  go_ret
  exact ⟨rfl, HB.out⟩
set_option maxRecDepth 100000 in
set_option maxHeartbeats 6400000 in
theorem errs_no2 (a b p q : Int) (w : World) (e1 : decide (a < 1) = false) (e2 : decide (1024 < a) = true) : Calls Try.prog 5 #[two a b, two p q] w (Yes w) := by
  have HV : Hid (Hv w No [] w) := Hv.begin w
  have hbad : Hid (a < 1 ∨ 1024 < a ∨ b < 1 ∨ 4096 < b) := (.inr (.inl (of_decide_eq_true e2)))
  go_enter Try.func5, Try.ntmps5
  go_wp2_with fail
  refine (new_no a b _ hbad).mono ?_
  rintro e w2 ⟨rfl, rfl⟩
  go_wp2_with fail
  refine (owners_nil p _).mono ?_
  rintro e w2 ⟨rfl, rfl⟩
  go_wp2_with fail
  refine (put_nil p q _).mono ?_
  rintro e w2 ⟨rfl, rfl⟩
  go_wp2_with fail
  refine (scrub_nil p _).mono ?_
  rintro e w2 ⟨rfl, rfl⟩
  go_wp2_with fail
  refine (may_nil p q 1 _).mono ?_
  rintro e w2 ⟨rfl, hb2⟩
  have hq := ((((HV.out.alloc_ _).alloc_ _).alloc _ _).still hb2).blk (i := 0) rfl
  simp only [World.size_alloc] at hq
  have k0 := hq.cell 0
  have k1 := hq.cell 1
  simp only [List.getElem?_toArray, List.getElem?_cons_zero, List.getElem?_cons_succ] at k0 k1
  clear hq
  go_wp2_with fail
  refine (slots_nil q 1 _).mono ?_
  rintro e w3 ⟨rfl, hb3⟩
  go_wp2_with fail
  refine (encode_nil _).mono ?_
  rintro e w3 ⟨rfl, rfl⟩
  go_wp2_with fail
  refine (copy_nil _).mono ?_
  rintro e w3 ⟨rfl, rfl⟩
  go_wp2_with fail
  refine (same_nil _).mono ?_
  rintro e w3 ⟨rfl, rfl⟩
  go_wp2_with fail
  refine (awake_any _).mono ?_
  rintro e w4 ⟨rfl, hb4⟩
  have HB := Lib.hid (((((((HV.out.alloc_ _).alloc_ _).alloc_ _).still hb2).still hb3).still hb4).below)
  clear hb2 hb3 hb4
  go_wp2
  go_ret
  exact ⟨rfl, HB.out⟩
set_option maxRecDepth 100000 in
set_option maxHeartbeats 6400000 in
theorem errs_no3 (a b p q : Int) (w : World) (e1 : decide (a < 1) = false) (e2 : decide (1024 < a) = false) (e3 : decide (b < 1) = true) : Calls Try.prog 5 #[two a b, two p q] w (Yes w) := by
  have HV : Hid (Hv w No [] w) := Hv.begin w
  have hbad : Hid (a < 1 ∨ 1024 < a ∨ b < 1 ∨ 4096 < b) := (.inr (.inr (.inl (of_decide_eq_true e3))))
  go_enter Try.func5, Try.ntmps5
  go_wp2_with fail
  refine (new_no a b _ hbad).mono ?_
  rintro e w2 ⟨rfl, rfl⟩
  go_wp2_with fail
  refine (owners_nil p _).mono ?_
  rintro e w2 ⟨rfl, rfl⟩
  go_wp2_with fail
  refine (put_nil p q _).mono ?_
  rintro e w2 ⟨rfl, rfl⟩
  go_wp2_with fail
  refine (scrub_nil p _).mono ?_
  rintro e w2 ⟨rfl, rfl⟩
  go_wp2_with fail
  refine (may_nil p q 1 _).mono ?_
  rintro e w2 ⟨rfl, hb2⟩
  have hq := ((((HV.out.alloc_ _).alloc_ _).alloc _ _).still hb2).blk (i := 0) rfl
  simp only [World.size_alloc] at hq
  have k0 := hq.cell 0
  have k1 := hq.cell 1
  simp only [List.getElem?_toArray, List.getElem?_cons_zero, List.getElem?_cons_succ] at k0 k1
  clear hq
  go_wp2_with fail
  refine (slots_nil q 1 _).mono ?_
  rintro e w3 ⟨rfl, hb3⟩
  go_wp2_with fail
  refine (encode_nil _).mono ?_
  rintro e w3 ⟨rfl, rfl⟩
  go_wp2_with fail
  refine (copy_nil _).mono ?_
  rintro e w3 ⟨rfl, rfl⟩
  go_wp2_with fail
  refine (same_nil _).mono ?_
  rintro e w3 ⟨rfl, rfl⟩
  go_wp2_with fail
  refine (awake_any _).mono ?_
  rintro e w4 ⟨rfl, hb4⟩
  have HB := Lib.hid (((((((HV.out.alloc_ _).alloc_ _).alloc_ _).still hb2).still hb3).still hb4).below)
  clear hb2 hb3 hb4
  go_wp2
  go_ret
  exact ⟨rfl, HB.out⟩
set_option maxRecDepth 100000 in
set_option maxHeartbeats 6400000 in
theorem errs_no4 (a b p q : Int) (w : World) (e1 : decide (a < 1) = false) (e2 : decide (1024 < a) = false) (e3 : decide (b < 1) = false) (e4 : decide (4096 < b) = true) : Calls Try.prog 5 #[two a b, two p q] w (Yes w) := by
  have HV : Hid (Hv w No [] w) := Hv.begin w
  have hbad : Hid (a < 1 ∨ 1024 < a ∨ b < 1 ∨ 4096 < b) := (.inr (.inr (.inr (of_decide_eq_true e4))))
  go_enter Try.func5, Try.ntmps5
  go_wp2_with fail
  refine (new_no a b _ hbad).mono ?_
  rintro e w2 ⟨rfl, rfl⟩
  go_wp2_with fail
  refine (owners_nil p _).mono ?_
  rintro e w2 ⟨rfl, rfl⟩
  go_wp2_with fail
  refine (put_nil p q _).mono ?_
  rintro e w2 ⟨rfl, rfl⟩
  go_wp2_with fail
  refine (scrub_nil p _).mono ?_
  rintro e w2 ⟨rfl, rfl⟩
  go_wp2_with fail
  refine (may_nil p q 1 _).mono ?_
  rintro e w2 ⟨rfl, hb2⟩
  have hq := ((((HV.out.alloc_ _).alloc_ _).alloc _ _).still hb2).blk (i := 0) rfl
  simp only [World.size_alloc] at hq
  have k0 := hq.cell 0
  have k1 := hq.cell 1
  simp only [List.getElem?_toArray, List.getElem?_cons_zero, List.getElem?_cons_succ] at k0 k1
  clear hq
  go_wp2_with fail
  refine (slots_nil q 1 _).mono ?_
  rintro e w3 ⟨rfl, hb3⟩
  go_wp2_with fail
  refine (encode_nil _).mono ?_
  rintro e w3 ⟨rfl, rfl⟩
  go_wp2_with fail
  refine (copy_nil _).mono ?_
  rintro e w3 ⟨rfl, rfl⟩
  go_wp2_with fail
  refine (same_nil _).mono ?_
  rintro e w3 ⟨rfl, rfl⟩
  go_wp2_with fail
  refine (awake_any _).mono ?_
  rintro e w4 ⟨rfl, hb4⟩
  have HB := Lib.hid (((((((HV.out.alloc_ _).alloc_ _).alloc_ _).still hb2).still hb3).still hb4).below)
  clear hb2 hb3 hb4
  go_wp2
  go_ret
  exact ⟨rfl, HB.out⟩
theorem errs_no (a b p q : Int) (w : World) (hbad : Hid (a < 1 ∨ 1024 < a ∨ b < 1 ∨ 4096 < b)) : Calls Try.prog 5 #[two a b, two p q] w (Yes w) := by
  have h' := hbad.out
  cases e1 : decide (a < 1)
  · cases e2 : decide (1024 < a)
    · cases e3 : decide (b < 1)
      · have e4 : decide (4096 < b) = true := by simp only [decide_eq_false_iff_not] at e1 e2 e3; exact decide_eq_true (by omega)
        exact errs_no4 a b p q w e1 e2 e3 e4
      · exact errs_no3 a b p q w e1 e2 e3
    · exact errs_no2 a b p q w e1 e2
  · exact errs_no1 a b p q w e1
set_option maxRecDepth 100000 in
set_option maxHeartbeats 6400000 in
theorem errs_yes (n : Nat) (b p q : Int) (w : World) (h1 : Hid (1 ≤ n ∧ n ≤ 1024 ∧ 1 ≤ b ∧ b ≤ 4096)) : Calls Try.prog 5 #[two (n : Int) b, two p q] w (Yes w) := by
  have HV : Hid (Hv w No [] w) := Hv.begin w
  have h' := h1.out
  have e1 : decide ((n : Int) < 1) = false := decide_eq_false (by omega)
  have e2 : decide (1024 < (n : Int)) = false := decide_eq_false (by omega)
  have e2' : decide (1024 < n) = false := decide_eq_false (by omega)
  have e3 : decide (b < 1) = false := decide_eq_false (by omega)
  have e4 : decide (4096 < b) = false := decide_eq_false (by omega)
  clear h'
  go_enter Try.func5, Try.ntmps5
  go_wp2_with fail
  refine (new_yes n b _ h1.out.1 h1.out.2.1 h1.out.2.2.1 h1.out.2.2.2).mono ?_
  rintro e w1 ⟨x, rfl, hx⟩
  have HB1 : Hid (Hv w No [blkA w.heap.size 22 #[.int .i64 (n : Int), .int .i64 b], blkA (w.heap.size + 1) 22 #[.int .i64 p, .int .i64 q]] w1) := by
    have h : Hv w No [blkA w.heap.size 22 #[.int .i64 (n : Int), .int .i64 b], blkA (w.alloc (.cells #[.int .i64 (n : Int), .int .i64 b] 22)).heap.size 22 #[.int .i64 p, .int .i64 q]] w1 := (((HV.out.alloc 22 #[.int .i64 (n : Int), .int .i64 b]).alloc 22 #[.int .i64 p, .int .i64 q]).add hx).pick [2, 1]
    rw [World.size_alloc] at h
    exact h
  have c0 := (HB1.out.blk (i := 0) rfl).cell 0
  have c1 := (HB1.out.blk (i := 0) rfl).cell 1
  have c2 := (HB1.out.blk (i := 1) rfl).cell 0
  have c3 := (HB1.out.blk (i := 1) rfl).cell 1
  have d2 := ((HB1.out.alloc 35 #[.int .i64 q, .int .i64 1]).blk (i := 2) rfl).cell 0
  have d3 := ((HB1.out.alloc 35 #[.int .i64 q, .int .i64 1]).blk (i := 2) rfl).cell 1
  simp only [List.getElem?_toArray, List.getElem?_cons_zero, List.getElem?_cons_succ] at c0 c1 c2 c3 d2 d3
  clear hx
  go_wp2_with fail
  refine (owners_nil p _).mono ?_
  rintro e w2 ⟨rfl, rfl⟩
  go_wp2_with fail
  refine (put_nil p q _).mono ?_
  rintro e w2 ⟨rfl, rfl⟩
  go_wp2_with fail
  refine (scrub_nil p _).mono ?_
  rintro e w2 ⟨rfl, rfl⟩
  go_wp2_with fail
  refine (may_nil p q 1 _).mono ?_
  rintro e w2 ⟨rfl, hb2⟩
  have hq := ((HB1.out.alloc _ _).still hb2).blk (i := 0) rfl
  have k0 := hq.cell 0
  have k1 := hq.cell 1
  simp only [List.getElem?_toArray, List.getElem?_cons_zero, List.getElem?_cons_succ] at k0 k1
  clear hq
  go_wp2_with fail
  refine (slots_nil q 1 _).mono ?_
  rintro e w3 ⟨rfl, hb3⟩
  go_wp2_with fail
  refine (encode_nil _).mono ?_
  rintro e w3 ⟨rfl, rfl⟩
  go_wp2_with fail
  refine (copy_nil _).mono ?_
  rintro e w3 ⟨rfl, rfl⟩
  go_wp2_with fail
  refine (same_nil _).mono ?_
  rintro e w3 ⟨rfl, rfl⟩
  go_wp2_with fail
  refine (awake_any _).mono ?_
  rintro e w4 ⟨rfl, hb4⟩
  have HB := Lib.hid ((((HB1.out.alloc_ _).still hb2).still hb3).still hb4).below
  clear hb2 hb3 hb4
  go_wp2
  go_ret
  exact ⟨rfl, HB.out⟩
end Go.Proofs.Ytieojomabmippaa

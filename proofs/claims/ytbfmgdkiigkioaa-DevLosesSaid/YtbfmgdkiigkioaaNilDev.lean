/- A nil device. -/
import Derived.Test.YtbfmgdkiigkioaaSame
import Derived.Test.YtbfmgdkiigkioaaCopy
import Derived.Test.YtbfmgdkiigkioaaAwake
namespace Go.Proofs.Ytbfmgdkiigkioaa
open Go.RowKit Go.LawEnd

theorem check_nil (s : Int) (w : World) : Calls Try.prog 29 #[.pointer none, .int .i64 s] w fun e w' => e = .returned (.int .i64 2) ∧ w = w' := by
  go_enter Try.func29, Try.ntmps29
  go_wp2
  go_ret
  exact ⟨rfl, rfl⟩
theorem size_nil (w : World) : Calls Try.prog 28 #[.pointer none] w fun e w' => e = .returned (.int .i64 0) ∧ w = w' := by
  go_enter Try.func28, Try.ntmps28
  go_wp2
  go_ret
  exact ⟨rfl, rfl⟩
theorem open_nil (w : World) : Calls Try.prog 16 #[.pointer none] w fun e w' => e = .returned (.int .i64 0) ∧ w = w' := by
  go_enter Try.func16, Try.ntmps16
  go_wp2
  go_ret
  exact ⟨rfl, rfl⟩
theorem planned_nil (w : World) : Calls Try.prog 23 #[.pointer none] w fun e w' => e = .returned (.int .i64 0) ∧ w = w' := by
  go_enter Try.func23, Try.ntmps23
  go_wp2
  go_ret
  exact ⟨rfl, rfl⟩
theorem copy_nil (w : World) : Calls Try.prog 26 #[.pointer none] w fun e w' => e = .returned (.pointer none) ∧ w = w' := by
  go_enter Try.func26, Try.ntmps26
  go_wp2
  go_ret
  exact ⟨rfl, rfl⟩
theorem crash_nil (w : World) : Calls Try.prog 17 #[.pointer none, .slice none 0 0] w fun e w' => e = .returned (.tuple #[.pointer none, .int .i64 2]) ∧ w = w' := by
  go_enter Try.func17, Try.ntmps17
  go_wp2
  go_ret2
  exact ⟨rfl, rfl⟩
theorem plan_nil0 (w : World) : Calls Try.prog 27 #[.pointer none, .slice none 0 0] w fun e w' => e = .returned (.int .i64 2) ∧ w = w' := by
  go_enter Try.func27, Try.ntmps27
  go_wp2
  go_ret
  exact ⟨rfl, rfl⟩
theorem same_nil2 (w : World) : Calls Try.prog 19 #[.pointer none, .pointer none] w fun e w' => e = .returned (.bool true) ∧ w = w' := by
  go_enter Try.func19, Try.ntmps19
  go_wp2
  go_ret
  exact ⟨rfl, rfl⟩
theorem same_nil1 (a : Addr) (w : World) : Calls Try.prog 19 #[.pointer (some a), .pointer none] w fun e w' => e = .returned (.bool false) ∧ w = w' := by
  go_enter Try.func19, Try.ntmps19
  go_wp2
  go_ret
  exact ⟨rfl, rfl⟩
set_option maxRecDepth 100000 in
set_option maxHeartbeats 3200000 in
theorem read_nil (s : Int) (w : World) : Calls Try.prog 22 #[.pointer none, .int .i64 s] w fun e w' => e = .returned (.tuple #[.agg (markC 0).toArray, .int .i64 2]) ∧ Below w.heap.size w w' := by
  have hz := zero34
  have hml := markC_length
  go_enter Try.func22, Try.ntmps22
  go_wp2_with fail
  obtain ⟨P4, hP4⟩ : ∃ y, y = w.heap.size := ⟨_, rfl⟩
  obtain ⟨V, hV⟩ : ∃ y, y = w.alloc (.cells (markC 0).toArray 34) := ⟨_, rfl⟩
  have h1 := (Hv.begin w).alloc 34 (markC 0).toArray
  rw [← hV, ← hP4] at h1
  rw [← hV]
  rw [← hP4]
  clear hV hP4
  refine (check_nil s _).mono ?_
  rintro e w2 ⟨rfl, rfl⟩
  obtain ⟨hv4, hst, hl2⟩ := fill_out h1 0
  have HV4 := Lib.hid hv4
  clear hv4 h1
  go_wp2_with fail
  refine bodyPost_ret (v := .tuple #[.agg (markC 0).toArray, .int .i64 2]) ?_ rfl ⟨rfl, HV4.out.below⟩
  rw [results_cell_tmp rfl]
  simp [asAddr, Result.andThen, hl2]
set_option maxRecDepth 100000 in
set_option maxHeartbeats 3200000 in
theorem firm_nil (s : Int) (w : World) : Calls Try.prog 18 #[.pointer none, .int .i64 s] w fun e w' => e = .returned (.tuple #[.agg (markC 0).toArray, .int .i64 2]) ∧ Below w.heap.size w w' := by
  have hz := zero34
  have hml := markC_length
  go_enter Try.func18, Try.ntmps18
  go_wp2_with fail
  obtain ⟨P4, hP4⟩ : ∃ y, y = w.heap.size := ⟨_, rfl⟩
  obtain ⟨V, hV⟩ : ∃ y, y = w.alloc (.cells (markC 0).toArray 34) := ⟨_, rfl⟩
  have h1 := (Hv.begin w).alloc 34 (markC 0).toArray
  rw [← hV, ← hP4] at h1
  rw [← hV]
  rw [← hP4]
  clear hV hP4
  refine (check_nil s _).mono ?_
  rintro e w2 ⟨rfl, rfl⟩
  obtain ⟨hv4, hst, hl2⟩ := fill_out h1 0
  have HV4 := Lib.hid hv4
  clear hv4 h1
  go_wp2_with fail
  refine bodyPost_ret (v := .tuple #[.agg (markC 0).toArray, .int .i64 2]) ?_ rfl ⟨rfl, HV4.out.below⟩
  rw [results_cell_tmp rfl]
  simp [asAddr, Result.andThen, hl2]
set_option maxRecDepth 100000 in
set_option maxHeartbeats 3200000 in
theorem write_nil (s z : Int) (w : World) : Calls Try.prog 13 #[.pointer none, .int .i64 s, .agg (markC z).toArray] w fun e w' => e = .returned (.int .i64 2) ∧ Below w.heap.size w w' := by
  have hz := zero34
  have hml := markC_length
  go_enter Try.func13, Try.ntmps13
  go_wp2_with fail
  obtain ⟨P3, hP3⟩ : ∃ y, y = w.heap.size := ⟨_, rfl⟩
  obtain ⟨P4, hP4⟩ : ∃ y, y = w.heap.size + 1 := ⟨_, rfl⟩
  obtain ⟨V, hV⟩ : ∃ y, y = ((w.alloc (.cells #[.pointer none] 26)).alloc (.cells #[.int .i64 s] 3)).alloc (.cells (markC z).toArray 34) := ⟨_, rfl⟩
  have h1 := (((Hv.begin w).alloc 26 #[.pointer none]).alloc 3 #[.int .i64 s]).alloc 34 (markC z).toArray
  simp only [World.size_alloc] at h1
  rw [← hV, ← hP4, ← hP3] at h1
  rw [← hV]
  rw [← hP4]
  rw [← hP3]
  have HV := Lib.hid h1
  clear hV hP4 hP3 h1
  go_wp2_with (first
    | (go_at_call 29; refine (check_nil s _).mono ?_; rintro e w2 ⟨rfl, rfl⟩)
    | fail)
  go_ret
  exact ⟨rfl, HV.out.below⟩
set_option maxRecDepth 100000 in
set_option maxHeartbeats 3200000 in
theorem flush_nil (w : World) : Calls Try.prog 15 #[.pointer none] w fun e w' => e = .returned (.int .i64 2) ∧ Below w.heap.size w w' := by
  have hz := zero34
  have hml := markC_length
  go_enter Try.func15, Try.ntmps15
  go_wp2
  go_ret
  exact ⟨rfl, ((Hv.begin w).alloc 26 #[.pointer none]).below⟩
end Go.Proofs.Ytbfmgdkiigkioaa

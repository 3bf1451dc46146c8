/- A nil index has nothing: call by call. -/
import Derived.Test.YtofeodhekpnpaaaAwake
namespace Go.Proofs.Ytofeodhekpnpaaa
open Go.RowKit Go.LawEnd

section
variable {w : World}
theorem drop_nil (i : Int) : Calls Try.prog 21 #[.pointer none, .int .i64 i] w fun e w' => e = .returned (.tuple #[.agg #[.int .i64 0, .bool false], .int .i64 2]) ∧ Below w.heap.size w w' := by
  go_enter Try.func21, Try.ntmps21
  go_wp2_with fail
  obtain ⟨w1, hw1⟩ : ∃ y, y = w.alloc (.cells #[.int .i64 0, .bool false] 35) := ⟨_, rfl⟩
  rw [← hw1]
  have A1 : Below w.heap.size w w1 := by rw [hw1]; exact (Below.refl _ w).alloc (Nat.le_refl _) _
  have K1 : Blk w1 w.heap.size 35 #[.int .i64 0, .bool false] := by rw [hw1]; exact Blk.new _ _ _
  clear hw1
  refine (get_nil i).mono ?_
  rintro e w2 ⟨rfl, hb2⟩
  have K2 := K1.below hb2 K1.lt
  have k0 := K2.cell 0
  have k1 := K2.cell 1
  have q0 := K2.frozen 0
  have q1 := K2.frozen 1
  simp at k0 k1
  have hlt := K2.lt
  have HB := Lib.hid (keep_call A1 hb2)
  clear A1 K1 K2 hb2
  go_wp2
  refine bodyPost_ret (v := .tuple #[.agg #[.int .i64 0, .bool false], .int .i64 2]) ?_ rfl ⟨rfl, ?_⟩
  · rw [results_cell_tmp rfl]; go_simp
  · exact ((HB.out.setCell (p := ⟨w.heap.size, 0, none⟩) (Nat.le_refl _) _).setCell (p := ⟨w.heap.size, 1, none⟩) (Nat.le_refl _) _).alloc (by have := HB.out.size; simpa using this) _
theorem clean_nil (i : Int) : Calls Try.prog 18 #[.pointer none, .int .i64 i] w fun e w' => e = .returned (.int .i64 2) ∧ Below w.heap.size w w' := by
  go_enter Try.func18, Try.ntmps18
  go_wp2_with fail
  refine (get_nil i).mono ?_
  rintro e w2 ⟨rfl, hb2⟩
  have HB := Lib.hid (hb2.alloc hb2.size (.cells #[.int .i64 0, .bool false] 35))
  clear hb2
  go_wp2
  go_ret
  exact ⟨rfl, HB.out⟩
theorem copy_nil : Calls Try.prog 17 #[.pointer none] w fun e w' => e = .returned (.pointer none) ∧ w = w' := by
  go_enter Try.func17, Try.ntmps17
  go_wp2
  go_ret
  exact ⟨rfl, rfl⟩
theorem count_nil (v : Value) : Calls Try.prog 30 #[.pointer none, v] w fun e w' => e = .returned (.int .i64 0) ∧ w = w' := by
  go_enter Try.func30, Try.ntmps30
  go_wp2
  go_ret
  exact ⟨rfl, rfl⟩
theorem len_nil : Calls Try.prog 15 #[.pointer none] w fun e w' => e = .returned (.int .i64 0) ∧ w = w' := by
  go_enter Try.func15, Try.ntmps15
  go_wp2_with fail
  refine (count_nil _).mono ?_
  rintro e w' ⟨rfl, rfl⟩
  go_wp2
  go_ret
  exact ⟨rfl, rfl⟩
theorem dirty_nil : Calls Try.prog 16 #[.pointer none] w fun e w' => e = .returned (.int .i64 0) ∧ w = w' := by
  go_enter Try.func16, Try.ntmps16
  go_wp2_with fail
  refine (count_nil _).mono ?_
  rintro e w' ⟨rfl, rfl⟩
  go_wp2
  go_ret
  exact ⟨rfl, rfl⟩
theorem all_nil (a c : Int) : Calls Try.prog 19 #[.pointer none, .agg #[.int .i64 a, .int .i64 c]] w fun e w' => e = .returned (.func (.func 35) #[] #[.pointer (some ⟨w.heap.size + 1, 0, none⟩), .pointer (some ⟨w.heap.size, 0, none⟩)]) ∧ w' = (w.alloc (.cells #[.int .i64 a, .int .i64 c] 46)).alloc (.cells #[.slice none 0 0] 51) := by
  go_enter Try.func19, Try.ntmps19
  go_wp2
  go_ret
  exact ⟨rfl, rfl⟩
end
end Go.Proofs.Ytofeodhekpnpaaa

/- SpansWhole at whatever comes. -/
import Derived.Test.YtelkanfmhfopnaaWhole
namespace Go.Proofs.Ytelkanfmhfopnaa
open Go.RowKit Go.LawEnd Go.Shelf

set_option maxRecDepth 100000 in
set_option maxHeartbeats 6400000 in
theorem whole_any (A : Option Addr) (cp : Nat) (l : List Sp) (w : World) (h : SpArg w A l) (hln : l.length ≤ 9223372036854775807) (hi : ∀ y ∈ l, I64 y) :
    Calls Try.prog 7 #[.slice A l.length cp] w (Yes w) := by
  by_cases h1 : l.length ≤ 40
  · exact whole_main A cp l w h h1 hi
  · have d0 : decide ((40 : Int) < (l.length : Int)) = true := decide_eq_true (by omega)
    refine (callsIn_wide (n := 9)).1 ?_
    refine callsIn_of_wp_marks Try.func7 rfl trivial ?_ rfl
    simp only [Try.ntmps7, List.size_toArray, List.length_cons, List.length_nil, Nat.reduceAdd, Nat.reduceSub, Array.replicate_succ, Array.replicate_zero, List.push_toArray, List.append_toArray, List.nil_append, List.cons_append]
    refine wpIn_wide.2 ?_
    obtain ⟨P2, hP2⟩ : ∃ y, y = w.heap.size := ⟨_, rfl⟩
    obtain ⟨w0, hw0⟩ : ∃ y, y = w.alloc (.cells #[.bool false] 4) := ⟨_, rfl⟩
    have HV : Hid (Hv w No [blkA P2 4 #[.bool false]] w0) := by
      rw [hP2, hw0]; exact (Hv.begin w).alloc 4 #[.bool false]
    clear h hi
    go_wp2_with fail
    rw [← hw0, ← hP2]
    clear hw0 hP2 d0
    refine (awake_any _).mono ?_
    rintro e w6 ⟨rfl, hb6⟩
    have HV0 := Lib.hid (HV.out.still hb6)
    clear hb6 HV
    have c9 : w6.cell? ⟨P2, 0, none⟩ = some (.bool false) := by simpa using (HV0.out.blk (i := 0) rfl).cell 0
    have c10 := (HV0.out.blk (i := 0) rfl).frozen 0
    have HV8 := HV0.out.set 0 (.bool true)
    have c7 := (HV8.blk (i := 0) rfl).cell 0
    simp only [Array.setIfInBounds, List.size_toArray, List.length_cons, List.length_nil, Nat.zero_lt_succ, ↓reduceDIte] at c7
    have HB8 := Lib.hid HV8.below
    clear HV8
    go_wp2
    refine ⟨.bool true, ?_, rfl, HB8.out⟩
    rw [results_cell_one rfl]
    go_simp
end Go.Proofs.Ytelkanfmhfopnaa

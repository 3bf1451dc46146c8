/- Put where the block or the slot is not there. -/
import Derived.Test.YtofeodhekpnpaaaPlace
namespace Go.Proofs.Ytofeodhekpnpaaa
open Go.RowKit Go.LawEnd

section
variable {w : World} {x b n slots : Nat} {g : Rowd} {l : List (Int × Bool)} {f : Int → Option Int}
theorem put_noblock (i s : Int) (d : Bool) (h : Hid (Idx w x g b n l f slots)) (hi : i < 0 ∨ (l.length : Int) ≤ i) :
    Calls Try.prog 20 #[.pointer (some ⟨x, 0, none⟩), .int .i64 i, .agg #[.int .i64 s, .bool d]] w fun e w' => e = .returned (.tuple #[.agg #[.int .i64 0, .bool false], .int .i64 10]) ∧ Below w.heap.size w w' := by
  have HP := Lib.hid (PI.start s d h.out)
  go_enter Try.func20, Try.ntmps20
  go_wp2_with fail
  refine (check_out i (Lib.hid HP.out.idx) hi).mono ?_
  rintro e w' ⟨rfl, rfl⟩
  go_wp2
  refine bodyPost_ret (v := .tuple #[.agg #[.int .i64 0, .bool false], .int .i64 10]) ?_ rfl ⟨rfl, HP.out.below⟩
  rw [results_cell_tmp rfl]; go_simp

set_option maxHeartbeats 1600000 in
theorem put_noslot (i : Nat) (s : Int) (d : Bool) (h : Hid (Idx w x g b n l f slots)) (hi : i < l.length) (hs : s < 0 ∨ (slots : Int) ≤ s) :
    Calls Try.prog 20 #[.pointer (some ⟨x, 0, none⟩), .int .i64 (i : Int), .agg #[.int .i64 s, .bool d]] w fun e w' => e = .returned (.tuple #[.agg #[.int .i64 0, .bool false], .int .i64 10]) ∧ Below w.heap.size w w' := by
  have HP := Lib.hid (PI.start s d h.out)
  by_cases h0 : s < 0
  · clear hs
    go_enter Try.func20, Try.ntmps20
    go_wp2_with fail
    obtain ⟨w1, hw1⟩ : ∃ y, y = (w.alloc (.cells #[.int .i64 s, .bool d] 35)).alloc (.cells #[.int .i64 0, .bool false] 35) := ⟨_, rfl⟩
    rw [← hw1]
    rw [← hw1] at HP
    clear hw1
    refine (check_in i (Lib.hid HP.out.idx) hi).mono ?_
    rintro e w' ⟨rfl, rfl⟩
    have c2 := HP.out.idx.head.cell 2
    have k0 := HP.out.box.cell 0
    have r0 := HP.out.res.cell 0
    have r1 := HP.out.res.cell 1
    have fr0 := HP.out.res.frozen 0
    have fr1 := HP.out.res.frozen 1
    simp at c2 k0 r0 r1
    go_wp2_with fail
    go_quiet (fail)
    go_wp2
    refine bodyPost_ret (v := .tuple #[.agg #[.int .i64 0, .bool false], .int .i64 10]) ?_ rfl ⟨rfl, ?_⟩
    · rw [results_cell_tmp rfl]; go_simp
    · refine Below.setCell (Below.setCell (HP.out.drewN _).below ?_ _) ?_ _ <;> exact Nat.le_succ _
  · have h1 : (slots : Int) ≤ s := by omega
    clear hs
    go_enter Try.func20, Try.ntmps20
    go_wp2_with fail
    obtain ⟨w1, hw1⟩ : ∃ y, y = (w.alloc (.cells #[.int .i64 s, .bool d] 35)).alloc (.cells #[.int .i64 0, .bool false] 35) := ⟨_, rfl⟩
    rw [← hw1]
    rw [← hw1] at HP
    clear hw1
    refine (check_in i (Lib.hid HP.out.idx) hi).mono ?_
    rintro e w' ⟨rfl, rfl⟩
    have c2 := HP.out.idx.head.cell 2
    have k0 := HP.out.box.cell 0
    have r0 := HP.out.res.cell 0
    have r1 := HP.out.res.cell 1
    have fr0 := HP.out.res.frozen 0
    have fr1 := HP.out.res.frozen 1
    simp at c2 k0 r0 r1
    go_wp2_with fail
    go_quiet (fail)
    go_wp2
    refine bodyPost_ret (v := .tuple #[.agg #[.int .i64 0, .bool false], .int .i64 10]) ?_ rfl ⟨rfl, ?_⟩
    · rw [results_cell_tmp rfl]; go_simp
    · refine Below.setCell (Below.setCell (HP.out.drewN _).below ?_ _) ?_ _ <;> exact Nat.le_succ _
end
end Go.Proofs.Ytofeodhekpnpaaa

/- The walk of RingNil. -/
import Derived.Test.YtpfhmkfeneejeaaAwake
namespace Go.Proofs.Ytpfhmkfeneejeaa
open Go.RowKit Go.LawEnd Go.Conc

set_option maxHeartbeats 400000 in
theorem RInt.drain_nil (w : World) : Calls Try.prog 24 #[.pointer none] w fun e w' => e = .returned (.slice none 0 0) ∧ w = w' := by
  go_enter Try.func24, Try.ntmps24
  go_wp2_with fail
  go_step3
  go_wp2_with fail
  go_step3
  go_wp2_with fail
  refine wp_loop_rounds 1 ?_
  rw [rounds_succ]
  go_wp2_with fail
  refine RInt.take_nil.mono ?_
  rintro e w' ⟨rfl, rfl⟩
  go_wp2
  try rw [Exit.noGoto_ret]
  go_ret
  exact ⟨rfl, rfl⟩

set_option maxHeartbeats 400000 in
theorem nil_any (x : Int) (w : World) : Calls Try.prog 8 #[.int .i64 x] w (Yes w) := by
  go_enter Try.func8, Try.ntmps8
  go_wp2_with fail
  refine RInt.take_nil.mono ?_
  rintro e w' ⟨rfl, rfl⟩
  go_wp2_with fail
  refine (RInt.put_nil x).mono ?_
  rintro e w' ⟨rfl, rfl⟩
  go_wp2_with fail
  refine RInt.close_nil.mono ?_
  rintro e w' ⟨rfl, rfl⟩
  go_wp2_with fail
  refine RInt.closed_nil.mono ?_
  rintro e w' ⟨rfl, rfl⟩
  go_wp2_with fail
  refine RInt.len_nil.mono ?_
  rintro e w' ⟨rfl, rfl⟩
  go_wp2_with fail
  refine RInt.room_nil.mono ?_
  rintro e w' ⟨rfl, rfl⟩
  go_wp2_with fail
  refine (RInt.drain_nil _).mono ?_
  rintro e w' ⟨rfl, rfl⟩
  go_wp2_with fail
  refine (awake_any _).mono ?_
  rintro e w' ⟨rfl, hb⟩
  go_wp2
  go_ret
  exact ⟨rfl, hb⟩
end Go.Proofs.Ytpfhmkfeneejeaa

/- The iterator of a nil index: no round. -/
import Derived.RangeFuncNested
import Derived.RangeFuncBound
import Derived.RangeFuncCalls
import Derived.RangeFuncLeaves
import Derived.RangeFuncFrom
import Derived.Shelf.Abstract
import Derived.Shelf.RegionOpen
import Derived.OwnWalkIn
import Derived.TacticsInMore
import Derived.LoopNIn
import Derived.LoopIn
import Derived.Test.YtofeodhekpnpaaaNils
namespace Go.Proofs.Ytofeodhekpnpaaa
open Go.RowKit Go.LawEnd

theorem all1_none (l B1 B2 : Nat) (W : World) (hc : W.cell? ⟨B1, 0, none⟩ = some (.slice none 0 0)) :
    Calls Try.prog 35 #[.func (.yield l) #[] #[], .pointer (some ⟨B1, 0, none⟩), .pointer (some ⟨B2, 0, none⟩)] W fun e W' => (∃ v, e = .returned v) ∧ W = W' := by
  go_enter Try.func35, Try.ntmps35
  go_wp2_with fail
  go_step3
  go_wp2_with fail
  go_step3
  go_wp2_with fail
  refine wp_loop_rounds 1 ?_
  rw [rounds_succ]
  go_wp2
  first | rw [Exit.noGoto_normal] | simp only [Exit.noGoto]
  go_end0
  exact ⟨⟨_, rfl⟩, rfl⟩

theorem all1_stops (n : Nat) (B1 B2 : Nat) (w : World) (hc : w.cell? ⟨B1, 0, none⟩ = some (.slice none 0 0)) (hB : B1 < w.heap.size) (Kp : World → World → Prop) :
    SeqStopsK (α := Empty) Fence.wide n Try.prog 35 #[.pointer (some ⟨B1, 0, none⟩), .pointer (some ⟨B2, 0, none⟩)] (fun x => x.elim) Kp (fun _ => True) (fun _ => False) 0 w := by
  intro l J Jx W hW hJ hJx hY h0
  have hc1 : W.cell? ⟨B1, 0, none⟩ = some (.slice none 0 0) := (hW.cell (p := ⟨B1, 0, none⟩) hB).trans hc
  refine callsIn_wide.2 ((all1_none l B1 B2 W hc1).mono ?_)
  rintro e W' ⟨hv, rfl⟩
  exact ⟨hv, .inl ⟨[], trivial, h0⟩⟩
end Go.Proofs.Ytofeodhekpnpaaa

/- What the rows of this seat list gives: the table's cells; a world that holds them, for the witnesses. -/
import Derived.Test.YtllbdbecenhomaaDoorRows
import Derived.Test.YtllbdbecenhomaaDoorNext
import Derived.ProofKit
import Derived.OpenShut
import Derived.Deep.DeepHandedRow
import Derived.Lib.LaidTab
namespace Go.Proofs.YtllbdbecenhomaaDoor
open Go.ChangeShapes Go.WideShapes Go.ChangeAt Go.RowKit

theorem own : ownKnob Tryd.prog.godebug = none := by kernel_rfl
theorem laidOut : laidOutB Tryd.prog = true := by kernel_rfl
theorem gTab : Tryd.prog.globalNamed "lavabo/crc.halves" = some 0 := by kernel_rfl
theorem gTabType : (Tryd.prog.globals[0]?).map (·.type) = some 44 := by kernel_rfl
theorem cellsTab : Tryd.prog.cellsOf 44 = 16 := by kernel_rfl
theorem cellsInt : Tryd.prog.cellsOf 3 = 1 := by kernel_rfl
theorem tab_int : ∀ i : Fin 16, (CrcMath.tab.map fun n : Nat => (n : Int)).getD i.1 0 = ((CrcMath.tab.getD i.1 0 : Nat) : Int) := by decide

/-- WHAT THE ROW's LIST GIVES: the table's cells. -/
theorem table {W : World} (h : laidMetH Tryd.prog [("lavabo/crc.halves", Rows.laid_lavabo_crc_halves)] W) : Tab W := fun i hi => by
  have t : Lib.TabIs Tryd.prog W "lavabo/crc.halves" .i64 (CrcMath.tab.map fun n : Nat => (n : Int)) := Lib.tabIs_of_head (rest := []) gTab gTabType Tryd.underlying44 Tryd.underlying3 cellsInt cellsTab h
  rw [t.cell gTab i (by simpa [CrcMath.tab] using hi), tab_int ⟨i, hi⟩]
theorem Tab.size {W : World} (h : Tab W) : 0 < W.heap.size := by
  have := h 0 (by omega)
  rcases Nat.eq_zero_or_pos W.heap.size with h0 | h0
  · have hn : W.heap[0]? = none := Array.getElem?_eq_none (by omega)
    simp [World.cell?, hn] at this
  · exact h0

/-- A WORLD FOR THE WITNESS: the settled one, the table holding what its initialiser lays. -/
noncomputable def laidWorld (os : Os) : World :=
  { World.holding Tryd.prog os ⟨#[], #[], []⟩ with heap := (World.holding Tryd.prog os ⟨#[], #[], []⟩).heap.modify 0 fun
      | .cells _ t frozen => .cells #[.int .i64 0, .int .i64 274646895, .int .i64 549293790, .int .i64 820201905, .int .i64 1098587580, .int .i64 1361435347, .int .i64 1640403810, .int .i64 1905808397, .int .i64 2197175160, .int .i64 2460548119, .int .i64 2722870694, .int .i64 2987750089, .int .i64 3280807620, .int .i64 3553878443, .int .i64 3811616794, .int .i64 4084100981] t frozen
      | o => o }
end Go.Proofs.YtllbdbecenhomaaDoor

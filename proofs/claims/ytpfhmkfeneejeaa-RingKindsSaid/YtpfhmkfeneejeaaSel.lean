/- A select of one case with a default at a region's head, in one goroutine, for the walk: one step of the machine's, then the rest of the region; over any program. -/
import Derived.Conc.LoneSelect
import Derived.Tactics
namespace Go.LawEnd
open Go.Conc Go.RowKit

theorem range_head (n : Nat) : List.range (n + 1) = 0 :: List.range' 1 n := by
  rw [List.range_eq_range', List.range'_succ]

theorem wp_region_comm {P : Program} {id : Nat} {o : Oper} {rest : List Oper} {Q : Exit → Act → World → Prop} {a : Act} {w w' : World} {cases : Array CommCase} {v : Value}
    (hg : o.guard = none) (hex : (execOp a.eval o).run P w = .ok (.comm cases false .select) w)
    (hstep : ∀ (fr : Frame) (cs : List Frame) (es : Array Event), stepG P true (G fr cs) w = .comm (G fr cs) cases false .select w es → step P (solo (G fr cs) w) = .next (solo (G (fr.finish v) cs) w'))
    (h : wpList P (o :: rest).toArray Q rest (a.put o.dst v) w') : (Code.region id (o :: rest).toArray false).wp P Q a w := by
  intro b k cs
  have h' : wpOps P (o :: rest).toArray Q (List.range' 1 rest.length) (a.put o.dst v) w' := by
    rw [wpOps_eq_wpList rest 1 (by intro j; simp [Nat.add_comm 1 j])]
    exact h
  obtain ⟨e, a', w'', hq, harr⟩ := wp_ops _ _ _ h' b k cs
  refine ⟨e, a', w'', hq, .of_steps (.head step_region (.one ?_)) harr⟩
  rw [show List.range (o :: rest).toArray.size = 0 :: List.range' 1 rest.length by simp only [List.size_toArray, List.length_cons]; exact range_head _]
  have ho : (o :: rest).toArray[0]? = some o := by simp
  have hw : Region.wanted o (yielded (o :: rest).toArray a.tmps) = true := by simp [Region.wanted, hg]
  have hgg := stepG_op (P := P) (b := b) (k := k) (cs := cs) (w := w) (rest := List.range' 1 rest.length) ho hw
  have hfin : (b.at a (.inRegion (o :: rest).toArray (0 :: List.range' 1 rest.length) :: k)).finish v = b.at (a.put o.dst v) (.inRegion (o :: rest).toArray (List.range' 1 rest.length) :: k) := by
    rw [Frame.finish_at, ho]; rfl
  rw [← hfin]
  have hs : ∃ es, stepG P true (G (b.at a (.inRegion (o :: rest).toArray (0 :: List.range' 1 rest.length) :: k)) cs) w = .comm (G (b.at a (.inRegion (o :: rest).toArray (0 :: List.range' 1 rest.length) :: k)) cs) cases false .select w es := by
    unfold G
    rw [hgg]
    simp only [stepG.apply, hex, Sem.runT_eq, GStep.after, if_true]
    exact ⟨_, rfl⟩
  obtain ⟨es, hs⟩ := hs
  exact hstep _ _ es hs
end Go.LawEnd

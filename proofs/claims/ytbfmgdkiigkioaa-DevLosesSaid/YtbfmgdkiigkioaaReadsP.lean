/- What is shown behind a write, and behind a flush. -/
import Derived.Test.YtbfmgdkiigkioaaOpens
namespace Go.Proofs.Ytbfmgdkiigkioaa
open Go.RowKit Go.LawEnd

theorem wpList_load_wanted {ops : Array Oper} {rest : List Oper} {op : Oper} {a : Act} {w : World} {Q : Exit → Act → World → Prop} {b o : Nat} {z : Int} (hr : w.rangeAt b o (markC z)) (hw : Region.wanted op (yielded ops a.tmps) = true) (x : Operand) (ho : op.op = .load 34 x)
    (hx : a.eval x = .pointer (some ⟨b, o, none⟩)) (h : wpList Try.prog ops Q rest (a.put op.dst (.agg (markC z).toArray)) w) : wpList Try.prog ops Q (op :: rest) a w := by
  refine wpList_step fun K hK => ?_
  rw [if_pos hw]
  exact wp_load_mid 34 x ho b o hx (markC z) _ hr Try.underlying34 rfl (by rw [size34, markC_length]) (hK _ _ h)
theorem last_add (l : List Wr) (a z s : Int) : lastOf (l ++ [(a, z)]) s = if a = s then some z else lastOf l s := by
  unfold lastOf
  rw [List.reverse_append, List.reverse_singleton, List.singleton_append, List.find?_cons]
  by_cases h : a = s
  · simp [h]
  · have hb : (a == s) = false := by rw [beq_eq_false_iff_ne]; exact h
    simp [h, hb]
section
variable {D : Dv} {a z s : Int}
theorem shown_add : shownF (addD D (a, z)) s = if a = s then z else shownF D s := by
  have e : firmAt (addD D (a, z)) s = firmAt D s := rfl
  unfold shownF
  rw [e, show (addD D (a, z)).opn = D.opn ++ [(a, z)] from rfl, last_add]
  by_cases h : a = s <;> simp [h]
theorem shown_flush : shownF (flushD D) s = firmAt (flushD D) s := rfl
theorem there_flush : there (flushD D) s = there D s := by unfold there flushD; simp only [flushL_length]
theorem there_add {p : Wr} : there (addD D p) s = there D s := rfl
theorem firm_flush_add (h : there D a = true) : firmAt (flushD (addD D (a, z))) a = z := by
  unfold firmAt
  rw [there_flush, there_add, if_pos h]
  obtain ⟨h0, h1⟩ := there_lt h
  have e : (flushD (addD D (a, z))).firm = (flushL D.firm D.opn).set a.toNat z := flushL_append _ _ _
  rw [e, List.getElem?_set_self (by rw [flushL_length]; omega)]
  rfl
theorem firm_byte (hb : OkB D) : 0 ≤ firmAt D s ∧ firmAt D s < 256 := by
  unfold firmAt
  by_cases h : there D s = true
  · rw [if_pos h]
    obtain ⟨h0, h1⟩ := there_lt h
    rw [List.getElem?_eq_getElem (by omega)]
    exact hb.1 _ (List.getElem_mem _)
  · rw [if_neg h]; decide
theorem shown_byte (hb : OkB D) : 0 ≤ shownF D s ∧ shownF D s < 256 := by
  unfold shownF lastOf
  cases h : D.opn.reverse.find? (fun p => p.1 == s) with
  | none => exact firm_byte hb
  | some p => exact hb.2 p (List.mem_reverse.1 (List.mem_of_find?_eq_some h))
end
end Go.Proofs.Ytbfmgdkiigkioaa

/- Plain laws of the law's all: what is checked of each block that comes. -/
import Derived.Test.YtofeodhekpnpaaaIDoes
import Derived.Test.YtofeodhekpnpaaaCollect
import Derived.Test.YtofeodhekpnpaaaQbIn
import Derived.Test.YtofeodhekpnpaaaNil
namespace Go.Proofs.Ytofeodhekpnpaaa
open Go.RowKit Go.LawEnd

abbrev It := Nat × Int × Bool
def okx (l : Pls) (fr N last : Int) (x : It) : Prop :=
  last < (x.1 : Int) ∧ x.1 < l.length ∧ fr ≤ (x.1 : Int) ∧ IntKind.i64.wrap ((x.1 : Int) - fr) < N ∧ x.2.1 = (pl l x.1).1 ∧ 0 ≤ x.2.1 ∧ x.2.2 = (pl l x.1).2
def lastOf (pre : List It) : Int := (pre.getLast?.map fun x => (x.1 : Int)).getD (-1)
theorem lastOf_nil : lastOf [] = -1 := rfl
theorem lastOf_snoc (pre : List It) (x : It) : lastOf (pre ++ [x]) = x.1 := by simp [lastOf]
theorem lastOf_lt {l : Pls} {fr N : Int} (k : Nat) : lastOf (itemsTo l fr N k) < k := by
  induction k with
  | zero => simp [itemsTo, lastOf]
  | succ k ih =>
    by_cases h : yes l fr N k = true
    · rw [itemsTo_yes h, lastOf_snoc]; simp only []; omega
    · rw [itemsTo_no (by simpa using h)]; omega
theorem items_ok {slots : Nat} {l : Pls} {fr N : Int} (hF : Fit slots l) (hl : l.length ≤ 4096) (k : Nat) (hk : k ≤ l.length) {p : List It} {x : It} (e : itemsTo l fr N k = p ++ [x]) : okx l fr N (lastOf p) x := by
  induction k with
  | zero => simp [itemsTo] at e
  | succ k ih =>
    by_cases h : yes l fr N k = true
    · rw [itemsTo_yes h] at e
      obtain ⟨e1, e2⟩ := List.append_inj' e rfl
      injection e2 with e2 _
      subst e1 e2
      unfold yes some_ at h
      simp only [Bool.and_eq_true, decide_eq_true_eq] at h
      obtain ⟨⟨⟨h1, h2⟩, h3⟩, h4⟩ := h
      refine ⟨lastOf_lt k, by omega, h3, ?_, rfl, ?_, rfl⟩
      · rw [IntWalk.i64_in _ (by simp only []; omega)]; exact h4
      · simp only []
        have hp := pl_at (l := l) (show k < l.length by omega)
        rcases hF l[k] (List.getElem_mem (by omega)) with e | ⟨a, _⟩
        · rw [hp, e] at h1; simp at h1
        · rw [hp]; exact a
    · rw [itemsTo_no (by simpa using h)] at e
      exact ih (by omega) e
/-- what is wanted: how many of the first k are of the span -/
theorem want_succ {slots : Nat} {l : Pls} {fr N : Int} (hF : Fit slots l) (h0 : 0 ≤ fr) (k : Nat) (hk : k < l.length) :
    ((itemsTo l fr N (k + 1)).length : Int) = (itemsTo l fr N k).length + if (decide (0 ≤ l[k].1) && decide (fr ≤ (k : Int)) && decide ((k : Int) - fr < N)) = true then 1 else 0 := by
  have hp := pl_at (l := l) hk
  have hs : some_ l[k] = decide (0 ≤ l[k].1) := by
    rcases hF l[k] (List.getElem_mem hk) with e | ⟨a, _⟩
    · rw [e]; rfl
    · unfold some_
      rw [decide_eq_true a]
      have : (l[k].1 == -1) = false := by rw [beq_eq_false_iff_ne]; omega
      simp [this]
  have hy : yes l fr N k = (decide (0 ≤ l[k].1) && decide (fr ≤ (k : Int)) && decide ((k : Int) - fr < N)) := by
    unfold yes
    rw [hp, hs, decide_eq_true h0, Bool.and_true]
  by_cases h : yes l fr N k = true
  · rw [itemsTo_yes h, ← hy, if_pos h, List.length_append]; rfl
  · rw [itemsTo_no (by simpa using h), ← hy, if_neg h]; omega
end Go.Proofs.Ytofeodhekpnpaaa

/- Many cells at once, in atoms: a store of a whole array into a block or a row; over any program. -/
import Derived.Test.YtbfmgdkiigkioaaSep
import Derived.Deep.MidRow
namespace Go.LawEnd
open Go.RowKit

def setMany (cs : Array Value) : Nat → List Value → Array Value
  | _, [] => cs
  | o, v :: r => setMany (cs.setIfInBounds o v) (o + 1) r
theorem setMany_size : ∀ (vs : List Value) (cs : Array Value) (o : Nat), (setMany cs o vs).size = cs.size
  | [], _, _ => rfl
  | v :: r, cs, o => by rw [setMany, setMany_size r]; simp
theorem setMany_get : ∀ (vs : List Value) (cs : Array Value) (o j : Nat), o + vs.length ≤ cs.size → (setMany cs o vs)[j]? = if o ≤ j ∧ j < o + vs.length then vs[j - o]? else cs[j]?
  | [], cs, o, j, _ => by simp only [setMany, List.length_nil, Nat.add_zero]; rw [if_neg (by omega)]
  | v :: r, cs, o, j, h => by
    simp only [List.length_cons] at h ⊢
    rw [setMany, setMany_get r _ (o + 1) j (by simp; omega), Array.getElem?_setIfInBounds]
    by_cases h1 : o + 1 ≤ j ∧ j < o + 1 + r.length
    · rw [if_pos h1, if_pos (by omega), show j - o = (j - (o + 1)) + 1 by omega, List.getElem?_cons_succ]
    · rw [if_neg h1]
      by_cases h2 : o = j
      · subst h2
        rw [if_pos rfl, if_pos (by omega), if_pos (by omega)]
        simp
      · rw [if_neg h2, if_neg (by omega)]
theorem setMany_all {vs : List Value} {cs : Array Value} (h : vs.length = cs.size) : setMany cs 0 vs = vs.toArray := by
  refine Array.ext_getElem? fun j => ?_
  rw [setMany_get vs cs 0 j (by omega), Nat.zero_add, Nat.sub_zero]
  by_cases h1 : j < vs.length
  · rw [if_pos ⟨Nat.zero_le _, h1⟩]; simp
  · rw [if_neg (by omega), Array.getElem?_eq_none (by omega), List.getElem?_toArray, List.getElem?_eq_none (by omega)]
section
variable {w0 w : World} {S : Nat → Prop} {L : List Atom}
theorem Hv.sets {g : Nat} {t : TypeId} : ∀ (vs : List Value) {cs : Array Value} {w : World} (_ : Hv w0 S (blkA g t cs :: L) w) (o : Nat), Hv w0 S (blkA g t (setMany cs o vs) :: L) (w.setCells g o vs)
  | [], _, _, h, _ => h
  | v :: r, _, _, h, o => Hv.sets r (h.set o v) (o + 1)
def setList (xs : List Value) : Nat → List Value → List Value
  | _, [] => xs
  | o, v :: r => setList (xs.set o v) (o + 1) r
theorem Hv.rowSets {g n cap : Nat} {e : TypeId} {size : Nat} : ∀ (vs : List Value) {xs : List Value} {w : World} (_ : Hv w0 S (rowA (.slice (some ⟨g, 0, none⟩) n cap) e size n xs :: L) w) (o : Nat),
    Hv w0 S (rowA (.slice (some ⟨g, 0, none⟩) n cap) e size n (setList xs o vs) :: L) (w.setCells g o vs)
  | [], _, _, h, _ => h
  | v :: r, _, _, h, o => Hv.rowSets r (h.rowSet o v) (o + 1)
end
theorem setList_mid : ∀ (vs old pre post : List Value), vs.length = old.length → setList (pre ++ (old ++ post)) pre.length vs = pre ++ (vs ++ post)
  | [], old, pre, post, h => by
    have : old = [] := List.eq_nil_of_length_eq_zero (by simpa using h.symm)
    subst this; rfl
  | v :: r, [], pre, post, h => by simp at h
  | v :: r, x :: old, pre, post, h => by
    simp only [List.length_cons, Nat.add_right_cancel_iff] at h
    rw [setList]
    have e1 : (pre ++ (x :: old ++ post)).set pre.length v = (pre ++ [v]) ++ (old ++ post) := by simp
    have e2 : pre.length + 1 = (pre ++ [v]).length := by simp
    rw [e1, e2, setList_mid r old (pre ++ [v]) post h]
    simp
/-- rows of blocks of k cells -/
theorem setList_flat {α : Type} (c : α → List Value) (k : Nat) (hc : ∀ x, (c x).length = k) (l : List α) (j : Nat) (hj : j < l.length) (x : α) : setList (l.flatMap c) (j * k) (c x) = (l.set j x).flatMap c := by
  have hlen : ∀ l' : List α, (l'.flatMap c).length = l'.length * k := fun l' => by
    induction l' with
    | nil => simp
    | cons y l' ih => rw [List.flatMap_cons, List.length_append, ih, hc, List.length_cons, Nat.add_mul]; omega
  have e : l = l.take j ++ (l[j] :: l.drop (j + 1)) := by rw [List.getElem_cons_drop, List.take_append_drop]
  have hp : ((l.take j).flatMap c).length = j * k := by rw [hlen, List.length_take, Nat.min_eq_left (by omega)]
  have e2 : l.flatMap c = (l.take j).flatMap c ++ (c l[j] ++ (l.drop (j + 1)).flatMap c) := by
    conv => lhs; rw [e]
    rw [List.flatMap_append, List.flatMap_cons]
  have e3 : (l.set j x).flatMap c = (l.take j).flatMap c ++ (c x ++ (l.drop (j + 1)).flatMap c) := by
    rw [List.set_eq_take_append_cons_drop, if_pos hj, List.flatMap_append, List.flatMap_cons]
  rw [e2, e3, ← hp]
  exact setList_mid _ _ _ _ (by rw [hc, hc])
theorem flat_get {α : Type} (c : α → List Value) (k : Nat) (hc : ∀ x, (c x).length = k) (l : List α) (j : Nat) (hj : j < l.length) (i : Nat) (hi : i < k) : (l.flatMap c)[j * k + i]? = (c l[j])[i]? := by
  induction l generalizing j with
  | nil => simp at hj
  | cons y l ih =>
    rw [List.flatMap_cons]
    cases j with
    | zero =>
      rw [Nat.zero_mul, Nat.zero_add, List.getElem?_append_left (by rw [hc]; exact hi)]
      rfl
    | succ j =>
      rw [List.getElem?_append_right (by rw [hc, Nat.add_mul]; omega), hc, show (j + 1) * k + i - k = j * k + i by rw [Nat.add_mul]; omega]
      exact ih j (by simpa using hj)
theorem blk_range {w : World} {g : Nat} {t : TypeId} {cs : List Value} (h : Blk w g t cs.toArray) : w.rangeAt g 0 cs := fun j v hv => by
  rw [Nat.zero_add, h.cell j]
  simpa using hv
theorem blk_there {w : World} {g : Nat} {t : TypeId} {cs : Array Value} {n : Nat} (h : Blk w g t cs) (hn : cs.size = n) : w.there g 0 n := fun j hj => by
  rw [Nat.zero_add, h.cell j]
  exact ⟨by rw [Array.getElem?_eq_getElem (by omega)]; rfl, h.frozen j⟩
end Go.LawEnd

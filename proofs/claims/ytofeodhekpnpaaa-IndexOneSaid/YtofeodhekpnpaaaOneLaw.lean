/- The plain law of IndexOne: which slots were seen. -/
import Derived.Test.YtofeodhekpnpaaaPlace
namespace Go.Proofs.Ytofeodhekpnpaaa
open Go.RowKit Go.LawEnd

def anyAt (l : List (Int × Bool)) (s : Int) : Bool := l.any (fun p => p.1 == s)
def seenOf (l : List (Int × Bool)) (k : Nat) : List Bool := (List.range 6).map (fun s : Nat => anyAt (l.take k) (s : Int))
theorem seen_length (l : List (Int × Bool)) (k : Nat) : (seenOf l k).length = 6 := by simp [seenOf]
theorem seen_get (l : List (Int × Bool)) (k s : Nat) (hs : s < 6) : (seenOf l k)[s]? = some (anyAt (l.take k) (s : Int)) := by
  simp [seenOf, hs]
theorem any_snoc (l : List (Int × Bool)) (k : Nat) (hk : k < l.length) (s : Int) : anyAt (l.take (k + 1)) s = (anyAt (l.take k) s || l[k].1 == s) := by
  unfold anyAt
  rw [List.take_succ_eq_append_getElem hk, List.any_append]
  simp
theorem seen_fresh {l : List (Int × Bool)} {f : Int → Option Int} {slots : Nat} (h : Ok slots l f) {k : Nat} (hk : k < l.length) {s : Int} {d : Bool} (h0 : 0 ≤ s) (he : l[k] = (s, d)) : anyAt (l.take k) s = false := by
  unfold anyAt
  rw [List.any_eq_false]
  intro p hp
  obtain ⟨i, hi, rfl⟩ := List.getElem_of_mem hp
  simp only [List.length_take] at hi
  rw [List.getElem_take]
  intro hc
  have hi2 : i < l.length := by omega
  have e1 : l[i]? = some (s, l[i].2) := by
    rw [List.getElem?_eq_getElem hi2]
    have : l[i].1 = s := by simpa using hc
    rw [← this]
  have e2 : l[k]? = some (s, d) := by rw [List.getElem?_eq_getElem hk, he]
  have := h.one h0 e1 e2
  omega
theorem seen_none {l : List (Int × Bool)} {k : Nat} (hk : k < l.length) (he : l[k] = (-1, false)) : seenOf l (k + 1) = seenOf l k := by
  unfold seenOf
  apply List.map_congr_left
  intro s _
  rw [any_snoc l k hk, he]
  have : ((-1 : Int) == (s : Int)) = false := by rw [beq_eq_false_iff_ne]; omega
  rw [this, Bool.or_false]
theorem seen_some {l : List (Int × Bool)} {k : Nat} (hk : k < l.length) {s : Nat} {d : Bool} (hs : s < 6) (he : l[k] = ((s : Int), d)) : seenOf l (k + 1) = (seenOf l k).set s true := by
  apply List.ext_getElem?
  intro j
  by_cases hj : j < 6
  · rw [seen_get _ _ _ hj, any_snoc l k hk, he]
    by_cases hjs : s = j
    · subst hjs
      rw [List.getElem?_set_self (by rw [seen_length]; exact hs)]
      simp
    · rw [List.getElem?_set_ne hjs, seen_get _ _ _ hj]
      have : ((s : Int) == (j : Int)) = false := by rw [beq_eq_false_iff_ne]; omega
      rw [this, Bool.or_false]
  · rw [List.getElem?_eq_none (by rw [seen_length]; omega), List.getElem?_eq_none (by rw [List.length_set, seen_length]; omega)]
/-- a slot is told by the map just if it was seen -/
theorem seen_map {l : List (Int × Bool)} {f : Int → Option Int} {slots : Nat} (h : Ok slots l f) (s : Nat) : anyAt l (s : Int) = (f (s : Int)).isSome := by
  cases hf : f (s : Int) with
  | none =>
    unfold anyAt
    rw [Option.isSome_none, List.any_eq_false]
    intro p hp hc
    obtain ⟨i, hi, rfl⟩ := List.getElem_of_mem hp
    have e : l[i].1 = (s : Int) := by simpa using hc
    have := (h.map (s : Int) i).2 ⟨by omega, i, rfl, l[i].2, by rw [List.getElem?_eq_getElem hi, ← e]⟩
    rw [hf] at this
    cases this
  | some j =>
    obtain ⟨_, i, rfl, d, hd⟩ := (h.map (s : Int) j).1 hf
    unfold anyAt
    rw [Option.isSome_some, List.any_eq_true]
    exact ⟨((s : Int), d), List.mem_of_getElem? hd, by simp⟩
end Go.Proofs.Ytofeodhekpnpaaa

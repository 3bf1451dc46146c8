/- A slice of integers that came in, opened once for nil, empty and other slices; over any program. -/
import Derived.ProofKit
import Derived.OpenShut
import Derived.Below
namespace Go.LawEnd
open Go.RowKit Go.WideShapes Go.ChangeShapes Go.ChangeAt

theorem block_lt {w : World} {a : Addr} {v : Value} (h : w.cell? a = some v) : a.block < w.heap.size := by
  rcases Nat.lt_or_ge a.block w.heap.size with h' | h'
  · exact h'
  · have hn : w.heap[a.block]? = none := Array.getElem?_eq_none h'
    simp [World.cell?, hn] at h

variable {H : Type} {enc : TypeId × Value → H} {P : Program}

theorem open_row {W : World} {base : Nat} {t e : TypeId} {k : IntKind} {v : Value} {d : DataW H} {p : List MemPlace} (ht : P.underlying t = some (.slice e)) (he : P.underlying e = some (.int k)) (hc : P.cellsOf e = 1)
    (hv : Value.okWide P W .any base t v) (h : DataW.Trod enc P W 0 (fun _ => true) true t v d p) :
    ∃ A n c, ∃ zs : List Int, v = .slice A n c ∧ zs.length = n ∧ n ≤ c ∧ c ≤ maxLen ∧ (∀ z ∈ zs, (Lit.int k z).wf = true) ∧ (0 < n → ∃ b off, A = some ⟨b, off, none⟩ ∧ b < W.heap.size ∧ ∀ j (hj : j < zs.length), W.cell? ⟨b, off + j, none⟩ = some (.int k zs[j])) := by
  obtain ⟨a0, len, cap, rfl⟩ := okWide_slice ht hv
  obtain ⟨fuel, hf⟩ := h
  rcases open_ints ht he hc hf with ⟨hcs, hx⟩ | ⟨a, len', cap', zs, hcs, _, hl, hm, hz, hx, hcell, hwz⟩
  · simp [Value.cells] at hcs
    obtain ⟨rfl, rfl, rfl⟩ := hcs
    exact ⟨none, 0, 0, [], rfl, rfl, Nat.le_refl _, by unfold maxLen; omega, fun z hz => (by cases hz), fun h => absurd h (by omega)⟩
  · simp [Value.cells] at hcs
    obtain ⟨rfl, rfl, rfl⟩ := hcs
    simp at hz
    refine ⟨some a, len, cap, zs.take len, rfl, by simp; omega, hl, hm, fun z hz => hwz z (List.mem_of_mem_take hz), fun h0 => ?_⟩
    obtain ⟨b, off, rfl, hc⟩ := ints_at hcell (by omega)
    refine ⟨b, off, rfl, block_lt (hc 0 (by omega)), fun j hj => ?_⟩
    rw [List.getElem_take]
    rw [hc j (by simp at hj; omega)]
    simp at hj
    simp [List.getD, show j < zs.length by omega]
end Go.LawEnd

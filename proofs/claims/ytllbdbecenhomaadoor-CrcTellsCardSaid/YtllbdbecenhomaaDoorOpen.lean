/- A []byte that came in reads as bytes. -/
import Derived.Test.YtllbdbecenhomaaDoorSum
import Derived.Test.YtllbdbecenhomaaDoorOpenInts
namespace Go.Proofs.YtllbdbecenhomaaDoor
open Go.RowKit Go.WideShapes Go.ChangeShapes Go.ChangeAt

theorem cellsByte : Tryd.prog.cellsOf 5 = 1 := by kernel_rfl
theorem open_bytes {H : Type} {enc : TypeId × Value → H} {W : World} {base : Nat} {v : Value} {d : DataW H} {p : List MemPlace} (hv : Value.okWide Tryd.prog W .any base 22 v) (h : DataW.Trod enc Tryd.prog W 0 (fun _ => true) true 22 v d p) :
    ∃ A n c l, v = .slice A n c ∧ l.length = n ∧ n ≤ c ∧ c ≤ maxLen ∧ BytesAt W W.heap.size (.slice A n c) l := by
  obtain ⟨A, n, c, zs, rfl, hn, hnc, hc, hw, hcells⟩ := LawEnd.open_row Tryd.underlying22 Tryd.underlying5 cellsByte hv h
  have hb : ∀ z ∈ zs, 0 ≤ z ∧ z ≤ 255 := fun z hz => bounds_u8 (hw z hz)
  refine ⟨A, n, c, zs.map Int.toNat, rfl, by simpa using hn, hnc, hc, ?_, A, c, by simp [hn], fun h0 => ?_⟩
  · intro x hx
    obtain ⟨z, hz, rfl⟩ := List.mem_map.1 hx
    have := hb z hz
    omega
  · obtain ⟨b, off, rfl, hlt, hcl⟩ := hcells (by simpa [hn] using h0)
    refine ⟨b, off, rfl, hlt, fun j hj => ?_⟩
    have hj' : j < zs.length := by simpa using hj
    rw [hcl j hj']
    have := hb zs[j] (List.getElem_mem hj')
    rw [List.getElem_map, Int.toNat_of_nonneg this.1]
end Go.Proofs.YtllbdbecenhomaaDoor

/- A []string that came in. -/
import Derived.Test.YtpfhmkfeneejeaaChecked
import Derived.Test.YtpfhmkfeneejeaaOpenRows
import Derived.Below
namespace Go.Proofs.Ytpfhmkfeneejeaa
open Go.RowKit Go.LawEnd
theorem open_strs {H : Type} {enc : TypeId × Value → H} {W : World} {base : Nat} {v : Value} {d : DataW H} {p : List MemPlace} (hv : Value.okWide Try.prog W .any base 22 v) (h : DataW.Trod enc Try.prog W 0 (fun _ => true) true 22 v d p) :
    ∃ A n c, ∃ L : List (Int × ByteArray), v = .slice A n c ∧ n ≤ 9223372036854775807 ∧ L.length = n ∧ ∀ k, k < n → ∃ b off s, A = some ⟨b, off, none⟩ ∧ L[k]? = some ((k : Int), s) ∧ ∀ W' : World, Below W.heap.size W W' → W'.cell? ⟨b, off + k, none⟩ = some (.string s) := by
  obtain ⟨A, n, c, rows, rfl, hn, hnc, hc, hr, hcells⟩ := LawEnd.open_rows Try.underlying22 (by kernel_rfl : Try.prog.cellsOf 9 = 1) (by omega) hv h
  have key : ∀ k (hk : k < rows.length), ∃ s, rows[k] = [.string s] := by
    intro k hk
    obtain ⟨hl, fuel, y, hy⟩ := hr rows[k] (List.getElem_mem hk)
    obtain ⟨s, hs, _⟩ := DataW.trod_string Try.underlying9 hy
    match hrk : rows[k], hl with
    | [u], _ =>
      rw [hrk] at hs
      simp at hs
      exact ⟨s, by rw [hs]⟩
  let strOf : List Value → ByteArray := fun r => match r with
    | [.string s] => s
    | _ => ⟨#[]⟩
  refine ⟨A, n, c, (List.range n).map (fun k : Nat => ((k : Int), strOf (rows.getD k []))), rfl, ?_, by simp, fun k hk => ?_⟩
  · have hx : maxLen = 9223372036854775807 := by decide
    omega
  · obtain ⟨b, off, rfl, hb, hcl⟩ := hcells (by omega)
    have hk' : k < rows.length := by omega
    obtain ⟨s, hs⟩ := key k hk'
    refine ⟨b, off, s, rfl, ?_, fun W' hW => ?_⟩
    · have e : rows.getD k [] = [.string s] := by rw [List.getD_eq_getElem?_getD, List.getElem?_eq_getElem hk', Option.getD_some, hs]
      rw [List.getElem?_map, List.getElem?_range hk]
      show some ((k : Int), strOf (rows.getD k [])) = _
      rw [e]
    · have := hcl k hk' 0 (by omega)
      rw [hs] at this
      rw [hW.cell (p := ⟨b, off + k, none⟩) hb]
      simpa using this
end Go.Proofs.Ytpfhmkfeneejeaa

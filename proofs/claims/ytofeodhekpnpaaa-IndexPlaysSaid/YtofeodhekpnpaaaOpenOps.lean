/- The calls that came in. -/
import Derived.Test.YtofeodhekpnpaaaOpenOp
namespace Go.Proofs.Ytofeodhekpnpaaa
open Go.RowKit Go.LawEnd
theorem open_ops {H : Type} {enc : TypeId × Value → H} {W : World} {base : Nat} {v : Value} {d : DataW H} {p : List MemPlace} (hv : Value.okWide Try.prog W .any base 22 v) (h : DataW.Trod enc Try.prog W 0 (fun _ => true) true 22 v d p) :
    ∃ A n c, v = .slice A n c ∧ n ≤ 9223372036854775807 ∧ ∀ k, k < n → ∃ b off a i s t, A = some ⟨b, off, none⟩ ∧ b < W.heap.size ∧ W.cell? ⟨b, off + k * 4, none⟩ = some (.int .i64 a) ∧ W.cell? ⟨b, off + k * 4 + 1, none⟩ = some (.int .i64 i) ∧ W.cell? ⟨b, off + k * 4 + 2, none⟩ = some (.int .i64 s) ∧ W.cell? ⟨b, off + k * 4 + 3, none⟩ = some (.bool t) := by
  obtain ⟨A, n, c, rows, rfl, hn, hnc, hc, hr, hcells⟩ := LawEnd.open_rows Try.underlying22 (by kernel_rfl : Try.prog.cellsOf 32 = 4) (by omega) hv h
  refine ⟨A, n, c, rfl, ?_, fun k hk => ?_⟩
  · have hx : maxLen = 9223372036854775807 := by decide
    omega
  · obtain ⟨b, off, rfl, hb, hcl⟩ := hcells (by omega)
    have hk' : k < rows.length := by omega
    obtain ⟨_, fuel, y, hy⟩ := hr rows[k] (List.getElem_mem hk')
    obtain ⟨a, i, s, t, e, _, _, _⟩ := open_op hy
    have c0 := hcl k hk' 0 (by omega)
    have c1 := hcl k hk' 1 (by omega)
    have c2 := hcl k hk' 2 (by omega)
    have c3 := hcl k hk' 3 (by omega)
    rw [e] at c0 c1 c2 c3
    exact ⟨b, off, a, i, s, t, rfl, hb, by simpa using c0, by simpa using c1, by simpa using c2, by simpa using c3⟩
end Go.Proofs.Ytofeodhekpnpaaa

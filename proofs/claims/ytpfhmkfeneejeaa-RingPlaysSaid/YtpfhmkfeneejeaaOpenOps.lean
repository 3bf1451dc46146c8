/- The calls that came in: each is two ints. -/
import Derived.Test.YtpfhmkfeneejeaaChecked
import Derived.Test.YtpfhmkfeneejeaaOpenRows
namespace Go.Proofs.Ytpfhmkfeneejeaa
open Go.RowKit Go.LawEnd

theorem open_op {H : Type} {enc : TypeId × Value → H} {w : World} {base fuel : Nat} {sp : Nat → Bool} {held : Bool} {cs : List Value} {x : DataW H × List MemPlace}
    (h : DataW.trod enc Try.prog w base sp held fuel 62 cs = some x) : ∃ a z : Int, cs = [.int .i64 a, .int .i64 z] := by
  obtain ⟨xs, m, _, _, hl, hxl, hf⟩ := DataW.trod_struct Try.underlying62 h
  have c2 : Try.prog.cellsOf 62 = 2 := by kernel_rfl
  have c1 : Try.prog.cellsOf 3 = 1 := by kernel_rfl
  rw [c2] at hl
  match cs, hl with
  | [u, v], _ =>
    have f0 : DataW.trod enc Try.prog w base sp held m 3 (([u, v].drop 0).take (Try.prog.cellsOf 3)) = xs[0]? := hf 0 _ rfl
    have f1 : DataW.trod enc Try.prog w base sp held m 3 (([u, v].drop 1).take (Try.prog.cellsOf 3)) = xs[1]? := hf 1 _ rfl
    rw [c1] at f0 f1
    rw [List.getElem?_eq_getElem (by rw [hxl]; decide)] at f0 f1
    obtain ⟨a, ea, _, _⟩ := DataW.trod_int Try.underlying3 f0
    obtain ⟨z, ez, _, _⟩ := DataW.trod_int Try.underlying3 f1
    simp at ea ez
    subst ea; subst ez
    exact ⟨a, z, rfl⟩

theorem open_ops {H : Type} {enc : TypeId × Value → H} {W : World} {base : Nat} {v : Value} {d : DataW H} {p : List MemPlace} (hv : Value.okWide Try.prog W .any base 56 v) (h : DataW.Trod enc Try.prog W 0 (fun _ => true) true 56 v d p) :
    ∃ A n c, v = .slice A n c ∧ n ≤ 9223372036854775807 ∧ ∀ k, k < n → ∃ b off a z, A = some ⟨b, off, none⟩ ∧ b < W.heap.size ∧ W.cell? ⟨b, off + k * 2, none⟩ = some (.int .i64 a) ∧ W.cell? ⟨b, off + k * 2 + 1, none⟩ = some (.int .i64 z) := by
  obtain ⟨A, n, c, rows, rfl, hn, hnc, hc, hr, hcells⟩ := LawEnd.open_rows Try.underlying56 (by kernel_rfl : Try.prog.cellsOf 62 = 2) (by omega) hv h
  refine ⟨A, n, c, rfl, ?_, fun k hk => ?_⟩
  · have hx : maxLen = 9223372036854775807 := by decide
    omega
  · obtain ⟨b, off, rfl, hb, hcl⟩ := hcells (by omega)
    have hk' : k < rows.length := by omega
    obtain ⟨_, fuel, y, hy⟩ := hr rows[k] (List.getElem_mem hk')
    obtain ⟨a, z, e⟩ := open_op hy
    have c0 := hcl k hk' 0 (by omega)
    have c1 := hcl k hk' 1 (by omega)
    rw [e] at c0 c1
    exact ⟨b, off, a, z, rfl, hb, by simpa using c0, by simpa using c1⟩
end Go.Proofs.Ytpfhmkfeneejeaa

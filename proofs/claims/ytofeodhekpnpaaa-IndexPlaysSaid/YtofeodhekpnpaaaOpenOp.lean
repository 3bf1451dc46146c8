/- A call that came in: three ints and a bool. -/
import Derived.Test.YtofeodhekpnpaaaChecked
import Derived.Test.YtofeodhekpnpaaaOpenRows
namespace Go.Proofs.Ytofeodhekpnpaaa
open Go.RowKit Go.LawEnd

theorem open_op {H : Type} {enc : TypeId × Value → H} {w : World} {base fuel : Nat} {sp : Nat → Bool} {held : Bool} {cs : List Value} {x : DataW H × List MemPlace}
    (h : DataW.trod enc Try.prog w base sp held fuel 32 cs = some x) : ∃ (a c d : Int) (t : Bool), cs = [.int .i64 a, .int .i64 c, .int .i64 d, .bool t] ∧ (Lit.int .i64 a).wf = true ∧ (Lit.int .i64 c).wf = true ∧ (Lit.int .i64 d).wf = true := by
  obtain ⟨xs, m, _, _, hl, hxl, hf⟩ := DataW.trod_struct Try.underlying32 h
  have c4 : Try.prog.cellsOf 32 = 4 := by kernel_rfl
  have c1 : Try.prog.cellsOf 3 = 1 := by kernel_rfl
  have cb : Try.prog.cellsOf 4 = 1 := by kernel_rfl
  rw [c4] at hl
  match cs, hl with
  | [u, v, y, z], _ =>
    have f0 : DataW.trod enc Try.prog w base sp held m 3 (([u, v, y, z].drop 0).take (Try.prog.cellsOf 3)) = xs[0]? := hf 0 _ rfl
    have f1 : DataW.trod enc Try.prog w base sp held m 3 (([u, v, y, z].drop 1).take (Try.prog.cellsOf 3)) = xs[1]? := hf 1 _ rfl
    have f2 : DataW.trod enc Try.prog w base sp held m 3 (([u, v, y, z].drop 2).take (Try.prog.cellsOf 3)) = xs[2]? := hf 2 _ rfl
    have f3 : DataW.trod enc Try.prog w base sp held m 4 (([u, v, y, z].drop 3).take (Try.prog.cellsOf 4)) = xs[3]? := hf 3 _ rfl
    rw [c1] at f0 f1 f2
    rw [cb] at f3
    have hx4 : xs.length = 4 := hxl
    rw [List.getElem?_eq_getElem (by omega)] at f0 f1 f2 f3
    obtain ⟨a, ea, _, wa⟩ := DataW.trod_int Try.underlying3 f0
    obtain ⟨c, ec, _, wc⟩ := DataW.trod_int Try.underlying3 f1
    obtain ⟨d, ed, _, wd⟩ := DataW.trod_int Try.underlying3 f2
    obtain ⟨t, et, _⟩ := DataW.trod_bool Try.underlying4 f3
    simp at ea ec ed et
    subst ea; subst ec; subst ed; subst et
    exact ⟨a, c, d, t, rfl, wa, wc, wd⟩

theorem open_op_arg {H : Type} {enc : TypeId × Value → H} {W : World} {base : Nat} {v : Value} {d : DataW H} {p : List MemPlace} (hv : Value.okWide Try.prog W .any base 32 v) (h : DataW.Trod enc Try.prog W 0 (fun _ => true) true 32 v d p) :
    ∃ (a c d : Int) (t : Bool), v = .agg #[.int .i64 a, .int .i64 c, .int .i64 d, .bool t] ∧ (Lit.int .i64 a).wf = true ∧ (Lit.int .i64 c).wf = true ∧ (Lit.int .i64 d).wf = true := by
  obtain ⟨cs, rfl, _⟩ : ∃ cs, v = .agg cs ∧ True := by
    have := hv
    simp only [Value.okWide, Try.underlying32] at this
    obtain ⟨cs, h1, _⟩ := this
    exact ⟨cs, h1, trivial⟩
  obtain ⟨fuel, hf⟩ := h
  obtain ⟨a, c, d, t, e, wa, wc, wd⟩ := open_op hf
  refine ⟨a, c, d, t, ?_, wa, wc, wd⟩
  obtain ⟨l⟩ := cs
  simp [Value.cells] at e
  rw [e]

theorem open_span {H : Type} {enc : TypeId × Value → H} {w : World} {base fuel : Nat} {sp : Nat → Bool} {held : Bool} {cs : List Value} {x : DataW H × List MemPlace}
    (h : DataW.trod enc Try.prog w base sp held fuel 46 cs = some x) : ∃ (a c : Int), cs = [.int .i64 a, .int .i64 c] ∧ (Lit.int .i64 a).wf = true ∧ (Lit.int .i64 c).wf = true := by
  obtain ⟨xs, m, _, _, hl, hxl, hf⟩ := DataW.trod_struct Try.underlying46 h
  have c4 : Try.prog.cellsOf 46 = 2 := by kernel_rfl
  have c1 : Try.prog.cellsOf 3 = 1 := by kernel_rfl
  rw [c4] at hl
  match cs, hl with
  | [u, v], _ =>
    have f0 : DataW.trod enc Try.prog w base sp held m 3 (([u, v].drop 0).take (Try.prog.cellsOf 3)) = xs[0]? := hf 0 _ rfl
    have f1 : DataW.trod enc Try.prog w base sp held m 3 (([u, v].drop 1).take (Try.prog.cellsOf 3)) = xs[1]? := hf 1 _ rfl
    rw [c1] at f0 f1
    have hx4 : xs.length = 2 := hxl
    rw [List.getElem?_eq_getElem (by omega)] at f0 f1
    obtain ⟨a, ea, _, wa⟩ := DataW.trod_int Try.underlying3 f0
    obtain ⟨c, ec, _, wc⟩ := DataW.trod_int Try.underlying3 f1
    simp at ea ec
    subst ea; subst ec
    exact ⟨a, c, rfl, wa, wc⟩
theorem open_span_arg {H : Type} {enc : TypeId × Value → H} {W : World} {base : Nat} {v : Value} {d : DataW H} {p : List MemPlace} (hv : Value.okWide Try.prog W .any base 46 v) (h : DataW.Trod enc Try.prog W 0 (fun _ => true) true 46 v d p) :
    ∃ (a c : Int), v = .agg #[.int .i64 a, .int .i64 c] ∧ (Lit.int .i64 a).wf = true ∧ (Lit.int .i64 c).wf = true := by
  obtain ⟨cs, rfl, _⟩ : ∃ cs, v = .agg cs ∧ True := by
    have := hv
    simp only [Value.okWide, Try.underlying46] at this
    obtain ⟨cs, h1, _⟩ := this
    exact ⟨cs, h1, trivial⟩
  obtain ⟨fuel, hf⟩ := h
  obtain ⟨a, c, e, wa, wc⟩ := open_span hf
  refine ⟨a, c, ?_, wa, wc⟩
  obtain ⟨l⟩ := cs
  simp [Value.cells] at e
  rw [e]
end Go.Proofs.Ytofeodhekpnpaaa

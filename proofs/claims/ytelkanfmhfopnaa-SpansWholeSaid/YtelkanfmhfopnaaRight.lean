/- The walk of Right; the spans that come in. -/
import Derived.Test.YtelkanfmhfopnaaSame
import Derived.Test.YtelkanfmhfopnaaOpenRows
namespace Go.Proofs.Ytelkanfmhfopnaa
open Go.RowKit Go.LawEnd

theorem i64_range {a : Int} (h : (Lit.int .i64 a).wf = true) : -9223372036854775808 ≤ a ∧ a ≤ 9223372036854775807 := by
  unfold Lit.wf at h
  rw [Bool.and_eq_true, decide_eq_true_eq, decide_eq_true_eq] at h
  exact h
theorem right_any (x : Sp) (w : World) (hi : I64 x) : Calls Try.prog 10 #[.agg #[.int .i64 x.1, .int .i64 x.2]] w fun e w' => e = .returned (.bool (mayB x)) ∧ Below w.heap.size w w' := by
  obtain ⟨a, b⟩ := x
  obtain ⟨⟨hi1, hi2⟩, hi3, hi4⟩ := hi
  simp only [] at hi1 hi2 hi3 hi4
  have HB := Lib.hid ((Below.refl w.heap.size w).alloc (Nat.le_refl _) (.cells #[.int .i64 a, .int .i64 b] 26))
  by_cases h0 : 0 ≤ a
  · have b0 : decide (0 ≤ a) = true := decide_eq_true h0
    by_cases h1 : 0 ≤ b
    · have b1 : decide (0 ≤ b) = true := decide_eq_true h1
      by_cases h2 : a ≤ 1048576
      · have b2 : decide (a ≤ 1048576) = true := decide_eq_true h2
        by_cases h3 : b ≤ 1048576
        · have b3 : decide (b ≤ 1048576) = true := decide_eq_true h3
          obtain ⟨v, hv⟩ : ∃ v, decide (a + b ≤ 1048576) = v := ⟨_, rfl⟩
          have HM : Hid (mayB (a, b) = v) := by
            show _ = _
            rw [← hv]
            have := mayB_iff (a, b)
            unfold May en at this
            simp only [] at this
            by_cases h : a + b ≤ 1048576
            · rw [decide_eq_true h]; exact this.2 ⟨h0, h1, h⟩
            · rw [decide_eq_false h]
              cases hm : mayB (a, b)
              · rfl
              · exact absurd (this.1 hm).2.2 h
          go_enter Try.func10, Try.ntmps10
          go_wp2
          go_ret
          rw [HM.out]
          exact ⟨rfl, HB.out⟩
        · have b3 : decide (b ≤ 1048576) = false := decide_eq_false h3
          have HM : Hid (mayB (a, b) = false) := by show _ = _; unfold mayB; rw [b0, b1, b3]; rfl
          go_enter Try.func10, Try.ntmps10
          go_wp2
          go_ret
          rw [HM.out]
          exact ⟨rfl, HB.out⟩
      · have b2 : decide (a ≤ 1048576) = false := decide_eq_false h2
        have HM : Hid (mayB (a, b) = false) := by
          show _ = _
          cases hm : mayB (a, b)
          · rfl
          · have := (mayB_iff (a, b)).1 hm
            unfold May en at this
            simp only [] at this
            omega
        go_enter Try.func10, Try.ntmps10
        go_wp2
        go_ret
        rw [HM.out]
        exact ⟨rfl, HB.out⟩
    · have b1 : decide (0 ≤ b) = false := decide_eq_false h1
      have HM : Hid (mayB (a, b) = false) := by show _ = _; unfold mayB; rw [b0, b1]; rfl
      go_enter Try.func10, Try.ntmps10
      go_wp2
      go_ret
      rw [HM.out]
      exact ⟨rfl, HB.out⟩
  · have b0 : decide (0 ≤ a) = false := decide_eq_false h0
    have HM : Hid (mayB (a, b) = false) := by show _ = _; unfold mayB; rw [b0]; rfl
    go_enter Try.func10, Try.ntmps10
    go_wp2
    go_ret
    rw [HM.out]
    exact ⟨rfl, HB.out⟩

theorem open_span {H : Type} {enc : TypeId × Value → H} {w : World} {base fuel : Nat} {sp : Nat → Bool} {held : Bool} {cs : List Value} {x : DataW H × List MemPlace}
    (h : DataW.trod enc Try.prog w base sp held fuel 26 cs = some x) : ∃ (a c : Int), cs = [.int .i64 a, .int .i64 c] ∧ (Lit.int .i64 a).wf = true ∧ (Lit.int .i64 c).wf = true := by
  obtain ⟨xs, m, _, _, hl, hxl, hf⟩ := DataW.trod_struct Try.underlying26 h
  have c4 : Try.prog.cellsOf 26 = 2 := by kernel_rfl
  have c1 : Try.prog.cellsOf 3 = 1 := by kernel_rfl
  rw [c4] at hl
  match cs, hl with
  | [u, v], _ =>
    have f0 : DataW.trod enc Try.prog w base sp held m 3 (([u, v].drop 0).take (Try.prog.cellsOf 3)) = xs[0]? := hf 0 _ rfl
    have f1 : DataW.trod enc Try.prog w base sp held m 3 (([u, v].drop 1).take (Try.prog.cellsOf 3)) = xs[1]? := hf 1 _ rfl
    rw [c1] at f0 f1
    have hx4 : xs.length = 2 := hxl
    rw [List.getElem?_eq_getElem (by omega)] at f0 f1
    obtain ⟨a, ea, _, wa⟩ := DataW.trod_int Try.underlying3 f0
    obtain ⟨c, ec, _, wc⟩ := DataW.trod_int Try.underlying3 f1
    simp at ea ec
    subst ea; subst ec
    exact ⟨a, c, rfl, wa, wc⟩
theorem open_span_arg {H : Type} {enc : TypeId × Value → H} {W : World} {base : Nat} {v : Value} {d : DataW H} {p : List MemPlace} (hv : Value.okWide Try.prog W .any base 26 v) (h : DataW.Trod enc Try.prog W 0 (fun _ => true) true 26 v d p) :
    ∃ x : Sp, v = .agg #[.int .i64 x.1, .int .i64 x.2] ∧ I64 x := by
  obtain ⟨cs, rfl, _⟩ : ∃ cs, v = .agg cs ∧ True := by
    have := hv
    simp only [Value.okWide, Try.underlying26] at this
    obtain ⟨cs, h1, _⟩ := this
    exact ⟨cs, h1, trivial⟩
  obtain ⟨fuel, hf⟩ := h
  obtain ⟨a, c, e, wa, wc⟩ := open_span hf
  refine ⟨(a, c), ?_, i64_range wa, i64_range wc⟩
  obtain ⟨l⟩ := cs
  simp [Value.cells] at e
  rw [e]
def dec : List Value → Sp
  | [.int _ a, .int _ c] => (a, c)
  | _ => (0, 0)
theorem open_spans {H : Type} {enc : TypeId × Value → H} {W : World} {base : Nat} {v : Value} {d : DataW H} {p : List MemPlace} (hv : Value.okWide Try.prog W .any base 22 v) (h : DataW.Trod enc Try.prog W 0 (fun _ => true) true 22 v d p) :
    ∃ A c, ∃ l : List Sp, v = .slice A l.length c ∧ l.length ≤ 9223372036854775807 ∧ SpArg W A l ∧ ∀ y ∈ l, I64 y := by
  obtain ⟨A, n, c, rows, rfl, hn, hnc, hc, hr, hcells⟩ := LawEnd.open_rows Try.underlying22 (by kernel_rfl : Try.prog.cellsOf 26 = 2) (by omega) hv h
  refine ⟨A, c, rows.map dec, by rw [List.length_map, hn], ?_, fun k hk => ?_, fun y hy => ?_⟩
  · have hx : maxLen = 9223372036854775807 := by decide
    rw [List.length_map]; omega
  · rw [List.length_map] at hk
    obtain ⟨b, off, rfl, hb, hcl⟩ := hcells (by omega)
    obtain ⟨_, fuel, y, hy⟩ := hr rows[k] (List.getElem_mem hk)
    obtain ⟨a, i, e, _, _⟩ := open_span hy
    have c0 := hcl k hk 0 (by omega)
    have c1 := hcl k hk 1 (by omega)
    have hd : (rows.map dec)[k]'(by rw [List.length_map]; exact hk) = (a, i) := by rw [List.getElem_map, e]; rfl
    rw [hd]
    rw [e] at c0 c1
    exact ⟨b, off, rfl, hb, by simpa using c0, by simpa using c1⟩
  · obtain ⟨r, hr', rfl⟩ := List.mem_map.1 hy
    obtain ⟨_, fuel, z, hz⟩ := hr r hr'
    obtain ⟨a, i, e, wa, wc⟩ := open_span hz
    rw [e]
    exact ⟨i64_range wa, i64_range wc⟩
end Go.Proofs.Ytelkanfmhfopnaa

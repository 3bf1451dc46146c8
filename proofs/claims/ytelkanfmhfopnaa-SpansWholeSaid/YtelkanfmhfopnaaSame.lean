/- The walks of the law's Spans, and of Same. -/
import Derived.Test.YtelkanfmhfopnaaAllOf
import Derived.Laws.StructEq
namespace Go.Proofs.Ytelkanfmhfopnaa
open Go.RowKit Go.LawEnd Go.Shelf

theorem neq_sp (a b c d : Int) (w : World) : (binOp BinOp.neq 26 (.agg #[.int .i64 a, .int .i64 b]) (.agg #[.int .i64 c, .int .i64 d])).run Try.prog w = .ok (.bool (!decide ((a, b) = (c, d)))) w := by
  rw [run_neq_struct, show (10000 : Nat) = 9999 + 1 from rfl, run_equalIn_struct w 9999 _ _ _ (by kernel_rfl) (by kernel_rfl)]
  go_simp
  by_cases h1 : a = c <;> by_cases h2 : b = d <;> simp [h1, h2]

set_option maxHeartbeats 3200000 in
theorem spans_any (A1 A2 : Option Addr) (c1 c2 : Nat) (a b : List Sp) (w : World) (ha : Hid (SpArg w A1 a)) (hb : Hid (SpArg w A2 b)) (la : a.length ≤ 2000000) :
    Calls Try.prog 18 #[.slice A1 a.length c1, .slice A2 b.length c2] w fun e w' => e = .returned (.bool (decide (a = b))) ∧ Below w.heap.size w w' := by
  have hne := neq_sp
  by_cases hl : a.length = b.length
  · go_enter Try.func18, Try.ntmps18
    rw [← hl]
    have HLL := Lib.hid hl
    clear hl
    go_wp2_with fail
    go_loopw [5] (fun i wr => ∃ k : Nat, k ≤ a.length ∧ i = .int .i64 k ∧ Hid (a.take k = b.take k) ∧ Hid (Below w.heap.size w wr)) (fun i _ => a.length - (intOf i).toNat)
    case atStart => exact ⟨0, by omega, rfl, rfl, Below.refl _ _⟩
    case round =>
      obtain ⟨k, hk, rfl, HT, HB⟩ := hrel
      by_cases hkl : k < a.length
      · obtain ⟨b1, off1, rfl, hlt1, p0, p1⟩ := ha.out k hkl
        obtain ⟨b2, off2, rfl, hlt2, q0, q1⟩ := hb.out k (by have := HLL.out; omega)
        obtain ⟨x, hx⟩ : ∃ y, y = a[k] := ⟨_, rfl⟩
        obtain ⟨y, hy⟩ : ∃ y, y = b[k]'(by have := HLL.out; omega) := ⟨_, rfl⟩
        rw [← hx] at p0 p1
        rw [← hy] at q0 q1
        have HX := Lib.hid hx
        have HY := Lib.hid hy
        clear hx hy
        obtain ⟨x0, x1⟩ := x
        obtain ⟨y0, y1⟩ := y
        have k0 : ∀ q : ExtB wr.heap.size wr, q.w.cell? ⟨b1, off1 + k * 2, none⟩ = some (.int .i64 x0) := fun q => ((HB.out.trans (q.below.mono HB.out.size)).cell (p := ⟨b1, off1 + k * 2, none⟩) hlt1).trans p0
        have k1 : ∀ q : ExtB wr.heap.size wr, q.w.cell? ⟨b1, off1 + k * 2 + 1, none⟩ = some (.int .i64 x1) := fun q => ((HB.out.trans (q.below.mono HB.out.size)).cell (p := ⟨b1, off1 + k * 2 + 1, none⟩) hlt1).trans p1
        have k2 : ∀ q : ExtB wr.heap.size wr, q.w.cell? ⟨b2, off2 + k * 2, none⟩ = some (.int .i64 y0) := fun q => ((HB.out.trans (q.below.mono HB.out.size)).cell (p := ⟨b2, off2 + k * 2, none⟩) hlt2).trans q0
        have k3 : ∀ q : ExtB wr.heap.size wr, q.w.cell? ⟨b2, off2 + k * 2 + 1, none⟩ = some (.int .i64 y1) := fun q => ((HB.out.trans (q.below.mono HB.out.size)).cell (p := ⟨b2, off2 + k * 2 + 1, none⟩) hlt2).trans q1
        clear p0 p1 q0 q1 hlt1 hlt2
        have f1 : (0 : Int) ≤ (k : Int) := by omega
        have f2 : (k : Int) < (a.length : Int) := by omega
        go_wp2_with fail
        refine wp_region_quiet_below (by kernel_rfl) (by kernel_rfl) ?_
        repeat (go_big_quiet_step (fail))
        refine wpQuiet_nil ?_
        intro W2 hw2
        obtain ⟨q, hq⟩ := hw2
        have hb2 := q.below
        rw [← hq] at hb2
        clear hq q
        have HB2 := Lib.hid (HB.out.trans (hb2.mono HB.out.size))
        clear hb2 k0 k1 k2 k3
        obtain ⟨z, hz⟩ : ∃ z, z = (!decide (x0 = y0) || !decide (x1 = y1)) := ⟨_, rfl⟩
        rw [← hz]
        have HZ := Lib.hid hz
        clear hz
        cases z
        · have hxy : (x0, x1) = (y0, y1) := by
            have := HZ.out
            simp at this
            rw [this.1, this.2]
          have HT2 : Hid (a.take (k + 1) = b.take (k + 1)) := by
            show _ = _
            rw [List.take_succ_eq_append_getElem hkl, List.take_succ_eq_append_getElem (by have := HLL.out; omega), HT.out, ← HX.out, ← HY.out, hxy]
          clear hxy
          go_wp2
          go_roundw
          case rel => exact ⟨k + 1, by omega, by go_num, HT2, HB2⟩
          case measure => simp [intOf]; omega
        · have hxy : ¬ (x0, x1) = (y0, y1) := by
            intro e
            injection e with e1 e2
            have := HZ.out
            simp [e1, e2] at this
          have hab : decide (a = b) = false := by
            rw [decide_eq_false_iff_not]
            intro e
            apply hxy
            rw [HX.out, HY.out]
            simp only [e]
          clear hxy
          go_wp2
          go_ret
          rw [hab]
          exact ⟨rfl, HB2.out⟩
      · have HAB : Hid (a = b) := by
          show a = b
          have h1 := HT.out
          rw [List.take_of_length_le (by omega), List.take_of_length_le (by have := HLL.out; omega)] at h1
          exact h1
        go_wp2
        go_ret
        rw [decide_eq_true HAB.out]
        exact ⟨rfl, HB.out⟩
  · have hab : ¬ a = b := fun e => hl (by rw [e])
    have hl2 : ((a.length : Int) == (b.length : Int)) = false := by rw [beq_eq_false_iff_ne]; omega
    have hl3 : ¬ (a.length : Int) = (b.length : Int) := by omega
    go_enter Try.func18, Try.ntmps18
    go_wp2

    go_ret
    rw [decide_eq_false hab]
    exact ⟨rfl, Below.refl _ _⟩
end Go.Proofs.Ytelkanfmhfopnaa

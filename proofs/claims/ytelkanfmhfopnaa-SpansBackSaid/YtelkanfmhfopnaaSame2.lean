/- The walks of EqualFunc and Same. -/
import Derived.Test.YtelkanfmhfopnaaSame
namespace Go.Proofs.Ytelkanfmhfopnaa
open Go.RowKit Go.LawEnd Go.Shelf

theorem eql_sp (a b c d : Int) (w : World) : (binOp BinOp.eql 26 (.agg #[.int .i64 a, .int .i64 b]) (.agg #[.int .i64 c, .int .i64 d])).run Try.prog w = .ok (.bool (decide ((a, b) = (c, d)))) w := by
  rw [run_eql_struct, show (10000 : Nat) = 9999 + 1 from rfl, run_equalIn_struct w 9999 _ _ _ (by kernel_rfl) (by kernel_rfl)]
  go_simp
  by_cases h1 : a = c <;> by_cases h2 : b = d <;> simp [h1, h2]
theorem same1_any (a b c d : Int) (w : World) : Calls Try.prog 29 #[.agg #[.int .i64 a, .int .i64 b], .agg #[.int .i64 c, .int .i64 d]] w fun e w' => e = .returned (.bool (decide ((a, b) = (c, d)))) ∧ Below w.heap.size w w' := by
  have heq := eql_sp
  have HB := Lib.hid (((Below.refl w.heap.size w).alloc (Nat.le_refl _) (.cells #[.int .i64 a, .int .i64 b] 26)).trans ((Below.refl w.heap.size (w.alloc (.cells #[.int .i64 a, .int .i64 b] 26))).alloc (by simp) (.cells #[.int .i64 c, .int .i64 d] 26)))
  obtain ⟨z, hz⟩ : ∃ z, decide ((a, b) = (c, d)) = z := ⟨_, rfl⟩
  have HZ := Lib.hid hz
  rw [hz]
  have heq2 : ∀ w : World, (binOp BinOp.eql 26 (.agg #[.int .i64 a, .int .i64 b]) (.agg #[.int .i64 c, .int .i64 d])).run Try.prog w = .ok (.bool z) w := fun w => by rw [heq, hz]
  clear heq hz
  have n1 := World.new_ne w
  go_enter Try.func29, Try.ntmps29
  go_wp2
  go_ret
  exact ⟨rfl, HB.out⟩

set_option maxHeartbeats 3200000 in
theorem equalFunc_any (A1 A2 : Option Addr) (c1 c2 : Nat) (a b : List Sp) (w : World) (ha : Hid (SpArg w A1 a)) (hb : Hid (SpArg w A2 b)) (la : a.length ≤ 2000000) :
    Calls Try.prog 28 #[.slice A1 a.length c1, .slice A2 b.length c2, .func (.func 29) #[] #[]] w fun e w' => e = .returned (.bool (decide (a = b))) ∧ Below w.heap.size w w' := by
  by_cases hl : a.length = b.length
  · go_enter Try.func28, Try.ntmps28
    rw [← hl]
    have HLL := Lib.hid hl
    clear hl
    go_wp2_with fail
    go_loopw [17] (fun i wr => ∃ k : Nat, k ≤ a.length ∧ i = .int .i64 k ∧ Hid (a.take k = b.take k) ∧ Hid (Below w.heap.size w wr)) (fun i _ => a.length - (intOf i).toNat)
    case atStart => exact ⟨0, by omega, rfl, rfl, Below.refl _ _⟩
    case round =>
      obtain ⟨k, hk, rfl, HT, HB⟩ := hrel
      by_cases hkl : k < a.length
      · obtain ⟨b1, off1, rfl, hlt1, p0, p1⟩ := ha.out k hkl
        obtain ⟨b2, off2, rfl, hlt2, q0, q1⟩ := hb.out k (by have := HLL.out; omega)
        obtain ⟨x, hx⟩ : ∃ y, y = a[k] := ⟨_, rfl⟩
        obtain ⟨y, hy⟩ : ∃ y, y = b[k]'(by have := HLL.out; omega) := ⟨_, rfl⟩
        rw [← hx] at p0 p1
        rw [← hy] at q0 q1
        have HX := Lib.hid hx
        have HY := Lib.hid hy
        clear hx hy
        obtain ⟨x0, x1⟩ := x
        obtain ⟨y0, y1⟩ := y
        have hz1 := HB.out.size
        have k0 : wr.cell? ⟨b1, off1 + k * 2, none⟩ = some (.int .i64 x0) := (HB.out.cell (p := ⟨b1, off1 + k * 2, none⟩) hlt1).trans p0
        have k1 : wr.cell? ⟨b1, off1 + k * 2 + 1, none⟩ = some (.int .i64 x1) := (HB.out.cell (p := ⟨b1, off1 + k * 2 + 1, none⟩) hlt1).trans p1
        have hA : Below w.heap.size w (wr.alloc (.cells #[.int .i64 x0, .int .i64 x1] 26)) := HB.out.trans ((Below.refl _ _).alloc (by have := HB.out.size; simp; omega) _)
        have k2 : (wr.alloc (.cells #[.int .i64 x0, .int .i64 x1] 26)).cell? ⟨b2, off2 + k * 2, none⟩ = some (.int .i64 y0) := (hA.cell (p := ⟨b2, off2 + k * 2, none⟩) hlt2).trans q0
        have k3 : (wr.alloc (.cells #[.int .i64 x0, .int .i64 x1] 26)).cell? ⟨b2, off2 + k * 2 + 1, none⟩ = some (.int .i64 y1) := (hA.cell (p := ⟨b2, off2 + k * 2 + 1, none⟩) hlt2).trans q1
        have HA2 : Hid (Below w.heap.size w ((wr.alloc (.cells #[.int .i64 x0, .int .i64 x1] 26)).alloc (.cells #[.int .i64 y0, .int .i64 y1] 26))) := hA.trans ((Below.refl _ _).alloc (by have := HB.out.size; simp; omega) _)
        clear p0 p1 q0 q1 hlt1 hlt2 hA hz1
        go_wp2_with fail
        refine (same1_any x0 x1 y0 y1 _).mono ?_
        rintro e W2 ⟨rfl, hb2⟩
        have HB2 := Lib.hid (HA2.out.trans (hb2.mono HA2.out.size))
        clear hb2 k0 k1 k2 k3 HA2
        by_cases hxy : (x0, x1) = (y0, y1)
        · have HT2 : Hid (a.take (k + 1) = b.take (k + 1)) := by
            show _ = _
            rw [List.take_succ_eq_append_getElem hkl, List.take_succ_eq_append_getElem (by have := HLL.out; omega), HT.out, ← HX.out, ← HY.out, hxy]
          rw [decide_eq_true hxy]
          clear hxy
          go_wp2
          go_roundw
          case rel => exact ⟨k + 1, by omega, by go_num, HT2, HB2⟩
          case measure => simp [intOf]; omega
        · have hab : decide (a = b) = false := by
            rw [decide_eq_false_iff_not]
            intro e
            apply hxy
            rw [HX.out, HY.out]
            simp only [e]
          rw [decide_eq_false hxy]
          clear hxy
          go_wp2
          go_ret
          rw [hab]
          exact ⟨rfl, HB2.out⟩
      · have HAB : Hid (a = b) := by
          show a = b
          have h1 := HT.out
          rw [List.take_of_length_le (by omega), List.take_of_length_le (by have := HLL.out; omega)] at h1
          exact h1
        go_wp2
        go_ret
        rw [decide_eq_true HAB.out]
        exact ⟨rfl, HB.out⟩
  · have hab : ¬ a = b := fun e => hl (by rw [e])
    have hl3 : ¬ (a.length : Int) = (b.length : Int) := by omega
    go_enter Try.func28, Try.ntmps28
    go_wp2
    go_ret
    rw [decide_eq_false hab]
    exact ⟨rfl, Below.refl _ _⟩

theorem same_any {T : Nat → Prop} (s1 s2 : Nat) (X Y : List Sp) (w : World) (h : Hid (Sep [setA s1 X, setA s2 Y] w T)) (hl : X.length ≤ 2000000) :
    Calls Try.prog 14 #[.pointer (some ⟨s1, 0, none⟩), .pointer (some ⟨s2, 0, none⟩)] w fun e w' => e = .returned (.bool (decide (X = Y))) ∧ Below w.heap.size w w' := by
  obtain ⟨v, hv⟩ := (Hv.start h.out).open_
  obtain ⟨v2, hv2⟩ := (show Hv w T (setA s2 Y :: [blkA s1 59 #[v], rsA v X]) w from hv.pick [3, 0, 1]).open_
  obtain ⟨A2, c2, rfl, hA2⟩ := SpArg.of_own (hv2.row (i := 1) rfl)
  obtain ⟨A1, c1, rfl, hA1⟩ := SpArg.of_own (hv2.row (i := 4) rfl)
  have HV := Lib.hid hv2
  have HA1 := Lib.hid hA1
  have HA2 := Lib.hid hA2
  have k0 : ∀ q : ExtB w.heap.size w, q.w.cell? ⟨s1, 0, none⟩ = some (.slice A1 X.length c1) := fun q => by simpa using ((HV.out.still q.below).blk (i := 3) rfl).cell 0
  have k1 : ∀ q : ExtB w.heap.size w, q.w.cell? ⟨s2, 0, none⟩ = some (.slice A2 Y.length c2) := fun q => by simpa using ((HV.out.still q.below).blk (i := 0) rfl).cell 0
  clear hv hv2 hA1 hA2
  go_enter Try.func14, Try.ntmps14
  go_wp2_with fail
  refine wp_region_quiet_below (by kernel_rfl) (by kernel_rfl) ?_
  repeat (go_big_quiet_step ((go_at_call 28; exact calls_ext (Nat.le_refl _) _ (equalFunc_any A1 A2 c1 c2 X Y _ (HA1.out.below (ExtB.below _)) (HA2.out.below (ExtB.below _)) hl))))
  refine wpQuiet_nil ?_
  intro W2 hw2
  obtain ⟨q, hq⟩ := hw2
  have hb2 := q.below
  rw [← hq] at hb2
  clear hq q k0 k1
  go_wp2
  go_ret
  exact ⟨rfl, hb2⟩
end Go.Proofs.Ytelkanfmhfopnaa

/- The calls that come in; small, does. -/
import Derived.Test.YtelkanfmhfopnaaRight
import Derived.Test.YtelkanfmhfopnaaCut
namespace Go.Proofs.Ytelkanfmhfopnaa
open Go.RowKit Go.LawEnd

/-- a call: is it Cut, of which span -/
abbrev Cl := Bool × Sp
def ClArg (w : World) (A : Option Addr) (l : List Cl) : Prop := ∀ k (h : k < l.length), ∃ b off, A = some ⟨b, off, none⟩ ∧ b < w.heap.size ∧ w.cell? ⟨b, off + k * 3, none⟩ = some (.bool l[k].1) ∧ w.cell? ⟨b, off + k * 3 + 1, none⟩ = some (.int .i64 l[k].2.1) ∧ w.cell? ⟨b, off + k * 3 + 2, none⟩ = some (.int .i64 l[k].2.2)
theorem ClArg.below {w w' : World} {A : Option Addr} {l : List Cl} (h : ClArg w A l) (hb : Below w.heap.size w w') : ClArg w' A l := by
  intro k hk
  obtain ⟨b, off, e, hlt, c0, c1, c2⟩ := h k hk
  exact ⟨b, off, e, by have := hb.size; omega, (hb.cell (p := ⟨b, off + k * 3, none⟩) hlt).trans c0, (hb.cell (p := ⟨b, off + k * 3 + 1, none⟩) hlt).trans c1, (hb.cell (p := ⟨b, off + k * 3 + 2, none⟩) hlt).trans c2⟩
theorem open_cl {H : Type} {enc : TypeId × Value → H} {w : World} {base fuel : Nat} {sp : Nat → Bool} {held : Bool} {cs : List Value} {x : DataW H × List MemPlace}
    (h : DataW.trod enc Try.prog w base sp held fuel 43 cs = some x) : ∃ (b : Bool) (a c : Int), cs = [.bool b, .int .i64 a, .int .i64 c] ∧ (Lit.int .i64 a).wf = true ∧ (Lit.int .i64 c).wf = true := by
  obtain ⟨xs, m, _, _, hl, hxl, hf⟩ := DataW.trod_struct Try.underlying43 h
  have c4 : Try.prog.cellsOf 43 = 3 := by kernel_rfl
  have c1 : Try.prog.cellsOf 4 = 1 := by kernel_rfl
  have c2 : Try.prog.cellsOf 26 = 2 := by kernel_rfl
  rw [c4] at hl
  match cs, hl with
  | [u, v, z], _ =>
    have f0 : DataW.trod enc Try.prog w base sp held m 4 (([u, v, z].drop 0).take (Try.prog.cellsOf 4)) = xs[0]? := hf 0 _ rfl
    have f1 : DataW.trod enc Try.prog w base sp held m 26 (([u, v, z].drop 1).take (Try.prog.cellsOf 26)) = xs[1]? := hf 1 _ rfl
    rw [c1] at f0
    rw [c2] at f1
    have hx4 : xs.length = 2 := hxl
    rw [List.getElem?_eq_getElem (by omega)] at f0 f1
    obtain ⟨b, eb, _⟩ := DataW.trod_bool Try.underlying4 f0
    obtain ⟨a, c, e, wa, wc⟩ := open_span f1
    simp at eb e
    obtain ⟨rfl, rfl⟩ := e
    subst eb
    exact ⟨b, a, c, rfl, wa, wc⟩
def dec3 : List Value → Cl
  | [.bool b, .int _ a, .int _ c] => (b, a, c)
  | _ => (false, 0, 0)
theorem open_cls {H : Type} {enc : TypeId × Value → H} {W : World} {base : Nat} {v : Value} {d : DataW H} {p : List MemPlace} (hv : Value.okWide Try.prog W .any base 37 v) (h : DataW.Trod enc Try.prog W 0 (fun _ => true) true 37 v d p) :
    ∃ A c, ∃ l : List Cl, v = .slice A l.length c ∧ l.length ≤ 9223372036854775807 ∧ ClArg W A l ∧ ∀ y ∈ l, I64 y.2 := by
  obtain ⟨A, n, c, rows, rfl, hn, hnc, hc, hr, hcells⟩ := LawEnd.open_rows Try.underlying37 (by kernel_rfl : Try.prog.cellsOf 43 = 3) (by omega) hv h
  refine ⟨A, c, rows.map dec3, by rw [List.length_map, hn], ?_, fun k hk => ?_, fun y hy => ?_⟩
  · have hx : maxLen = 9223372036854775807 := by decide
    rw [List.length_map]; omega
  · rw [List.length_map] at hk
    obtain ⟨b, off, rfl, hb, hcl⟩ := hcells (by omega)
    obtain ⟨_, fuel, y, hy⟩ := hr rows[k] (List.getElem_mem hk)
    obtain ⟨z, a, i, e, _, _⟩ := open_cl hy
    have c0 := hcl k hk 0 (by omega)
    have c1 := hcl k hk 1 (by omega)
    have c2 := hcl k hk 2 (by omega)
    have hd : (rows.map dec3)[k]'(by rw [List.length_map]; exact hk) = (z, a, i) := by rw [List.getElem_map, e]; rfl
    rw [hd]
    rw [e] at c0 c1 c2
    exact ⟨b, off, rfl, hb, by simpa using c0, by simpa using c1, by simpa using c2⟩
  · obtain ⟨r, hr', rfl⟩ := List.mem_map.1 hy
    obtain ⟨_, fuel, z, hz⟩ := hr r hr'
    obtain ⟨_, a, i, e, wa, wc⟩ := open_cl hz
    rw [e]
    exact ⟨i64_range wa, i64_range wc⟩

def SmallP (o : Cl) : Prop := mayB o.2 = true → en o.2 ≤ 200
set_option maxRecDepth 100000 in
set_option maxHeartbeats 3200000 in
theorem small_any (A : Option Addr) (cp : Nat) (l : List Cl) (w : World) (h : Hid (ClArg w A l)) (hln : l.length ≤ 9223372036854775807) (hi : Hid (∀ y ∈ l, I64 y.2)) :
    Calls Try.prog 15 #[.slice A l.length cp] w fun e w' => ∃ v : Bool, e = .returned (.bool v) ∧ (v = true → l.length ≤ 60 ∧ ∀ o ∈ l, SmallP o) ∧ Below w.heap.size w w' := by
  go_enter Try.func15, Try.ntmps15
  go_wp2_with fail
  go_loopw [3] (fun i wr => ∃ k : Nat, k ≤ l.length ∧ i = .int .i64 k ∧ Hid (∀ o ∈ l.take k, SmallP o) ∧ Hid (Below w.heap.size w wr)) (fun i _ => l.length - (intOf i).toNat)
  case atStart => exact ⟨0, by omega, rfl, fun o ho => by simp at ho, Below.refl _ _⟩
  case round =>
    obtain ⟨k, hk, rfl, HS, HB⟩ := hrel
    by_cases hkl : k < l.length
    · obtain ⟨b, off, rfl, hb, c0, c1, c2⟩ := h.out k hkl
      have hil := hi.out l[k] (List.getElem_mem hkl)
      have hts : l.take (k + 1) = l.take k ++ [l[k]] := List.take_succ_eq_append_getElem hkl
      obtain ⟨y, hy⟩ : ∃ y, y = l[k] := ⟨_, rfl⟩
      rw [← hy] at c0 c1 c2 hil hts
      clear hy
      obtain ⟨z, y0, y1⟩ := y
      have HT := Lib.hid hts
      have HIY := Lib.hid hil
      obtain ⟨⟨hi1, hi2⟩, hi3, hi4⟩ := hil
      simp only [] at hi1 hi2 hi3 hi4
      have k1 : ∀ q : ExtB wr.heap.size wr, q.w.cell? ⟨b, off + k * 3 + 1, none⟩ = some (.int .i64 y0) := fun q => ((HB.out.trans (q.below.mono HB.out.size)).cell (p := ⟨b, off + k * 3 + 1, none⟩) hb).trans c1
      have k2 : ∀ q : ExtB wr.heap.size wr, q.w.cell? ⟨b, off + k * 3 + 2, none⟩ = some (.int .i64 y1) := fun q => ((HB.out.trans (q.below.mono HB.out.size)).cell (p := ⟨b, off + k * 3 + 2, none⟩) hb).trans c2
      have f1 : (0 : Int) ≤ (k : Int) := by omega
      have f2 : (k : Int) < (l.length : Int) := by omega
      clear c0 c1 c2 hts
      cases hm : mayB (y0, y1)
      · have HR : Hid (∀ W : World, Calls Try.prog 10 #[.agg #[.int .i64 y0, .int .i64 y1]] W fun e w' => e = .returned (.bool false) ∧ Below W.heap.size W w') := fun W => by rw [← hm]; exact right_any (y0, y1) W HIY.out
        have HS2 : Hid (∀ o ∈ l.take (k + 1), SmallP o) := fun o ho => by
          rw [HT.out] at ho
          rcases List.mem_append.1 ho with h | h
          · exact HS.out o h
          · rw [List.mem_singleton.1 h]; intro h2; rw [hm] at h2; cases h2
        clear hm
        go_wp2_with fail
        refine wp_region_quiet_below (by kernel_rfl) (by kernel_rfl) ?_
        repeat (go_big_quiet_step ((go_at_call 10; exact calls_ext (Nat.le_refl _) _ (HR.out _))))
        refine wpQuiet_nil ?_
        intro W2 hw2
        obtain ⟨q, hq⟩ := hw2
        have hb2 := q.below
        rw [← hq] at hb2
        clear hq q
        have HB2 := Lib.hid (HB.out.trans (hb2.mono HB.out.size))
        clear hb2 k1 k2
        go_wp2
        go_roundw
        case rel => exact ⟨k + 1, by omega, by go_num, HS2, HB2⟩
        case measure => simp [intOf]; omega
      · have HR : Hid (∀ W : World, Calls Try.prog 10 #[.agg #[.int .i64 y0, .int .i64 y1]] W fun e w' => e = .returned (.bool true) ∧ Below W.heap.size W w') := fun W => by rw [← hm]; exact right_any (y0, y1) W HIY.out
        have hM := (mayB_iff _).1 hm
        simp only [May, en] at hM
        obtain ⟨hm1, hm2, hm3⟩ := hM
        have e7 : IntKind.i64.wrap (y0 + y1) = y0 + y1 := IntWalk.i64_in _ (by omega)
        by_cases h2 : y0 + y1 ≤ 200
        · have HS2 : Hid (∀ o ∈ l.take (k + 1), SmallP o) := fun o ho => by
            rw [HT.out] at ho
            rcases List.mem_append.1 ho with h | h
            · exact HS.out o h
            · rw [List.mem_singleton.1 h]; intro _; exact h2
          have b1 : decide ((200 : Int) < y0 + y1) = false := decide_eq_false (by omega)
          clear hm
          go_wp2_with fail
          refine wp_region_quiet_below (by kernel_rfl) (by kernel_rfl) ?_
          repeat (go_big_quiet_step ((go_at_call 10; exact calls_ext (Nat.le_refl _) _ (HR.out _))))
          refine wpQuiet_nil ?_
          intro W2 hw2
          obtain ⟨q, hq⟩ := hw2
          have hb2 := q.below
          rw [← hq] at hb2
          clear hq q
          have HB2 := Lib.hid (HB.out.trans (hb2.mono HB.out.size))
          clear hb2 k1 k2
          go_wp2
          go_roundw
          case rel => exact ⟨k + 1, by omega, by go_num, HS2, HB2⟩
          case measure => simp [intOf]; omega
        · have b1 : decide ((200 : Int) < y0 + y1) = true := decide_eq_true (by omega)
          clear hm
          go_wp2_with fail
          refine wp_region_quiet_below (by kernel_rfl) (by kernel_rfl) ?_
          repeat (go_big_quiet_step ((go_at_call 10; exact calls_ext (Nat.le_refl _) _ (HR.out _))))
          refine wpQuiet_nil ?_
          intro W2 hw2
          obtain ⟨q, hq⟩ := hw2
          have hb2 := q.below
          rw [← hq] at hb2
          clear hq q
          have HB2 := Lib.hid (HB.out.trans (hb2.mono HB.out.size))
          clear hb2 k1 k2
          go_wp2
          go_ret
          exact ⟨false, rfl, fun h => (by cases h), HB2.out⟩
    · have hkl2 : l.take k = l := List.take_of_length_le (by omega)
      rw [hkl2] at HS
      clear hkl2
      by_cases h60 : l.length ≤ 60
      · have b1 : decide ((l.length : Int) ≤ 60) = true := decide_eq_true (by omega)
        go_wp2
        go_ret
        exact ⟨true, rfl, fun _ => ⟨h60, HS.out⟩, HB.out⟩
      · have b1 : decide ((l.length : Int) ≤ 60) = false := decide_eq_false (by omega)
        go_wp2
        go_ret
        exact ⟨false, rfl, fun h => (by cases h), HB.out⟩

/-- what a call makes of a set -/
def doF (l : List Sp) (o : Cl) : List Sp := if mayB o.2 = true then (if o.1 = true then cutF l o.2 else addF l o.2) else l
theorem does_at {T : Nat → Prop} (s : Nat) (l : List Sp) (o : Cl) (w : World) (r : Int) (hr : Hid ((if mayB o.2 = true then (0 : Int) else 10) = r)) (h : Hid (Sep [setA s l] w T)) (hok : Hid (OkS l)) (hi : Hid (I64 o.2)) :
    Calls Try.prog 17 #[.pointer (some ⟨s, 0, none⟩), .agg #[.bool o.1, .int .i64 o.2.1, .int .i64 o.2.2]] w fun e w' => e = .returned (.int .i64 r) ∧ Hv w T [setA s (doF l o)] w' := by
  obtain ⟨c, x0, x1⟩ := o
  have HI := hi.out.2
  obtain ⟨hi1, hi2⟩ := HI
  simp only [] at hi1 hi2
  have HW : Hid (Hv w T [setA s l, blkA w.heap.size 43 #[.bool c, .int .i64 x0, .int .i64 x1]] (w.alloc (.cells #[.bool c, .int .i64 x0, .int .i64 x1] 43))) := ((Hv.start h.out).alloc 43 #[.bool c, .int .i64 x0, .int .i64 x1]).pick [1, 0]
  cases c
  · have HD : Hid (doF l (false, x0, x1) = if mayB (x0, x1) = true then addF l (x0, x1) else l) := by show _ = _; unfold doF; simp
    go_enter Try.func17, Try.ntmps17
    go_wp2_with fail
    obtain ⟨T2, hT2, hJ2⟩ := Hv.use [setA s l] _ HW.out
    refine (add_any s l (x0, x1) _ hT2 hok hi1 hi2).mono ?_
    rintro e w2 ⟨rfl, h2⟩
    rw [← HD.out] at h2
    rw [hr.out]
    have HV := Lib.hid (hJ2 _ _ h2)
    clear h2 hJ2 hT2 HW
    go_wp2
    go_ret
    exact ⟨rfl, HV.out.drop [setA _ _] _⟩
  · have HD : Hid (doF l (true, x0, x1) = if mayB (x0, x1) = true then cutF l (x0, x1) else l) := by show _ = _; unfold doF; simp
    go_enter Try.func17, Try.ntmps17
    go_wp2_with fail
    obtain ⟨T2, hT2, hJ2⟩ := Hv.use [setA s l] _ HW.out
    refine (cut_any s l (x0, x1) _ hT2 hok hi1 hi2).mono ?_
    rintro e w2 ⟨rfl, h2⟩
    rw [← HD.out] at h2
    rw [hr.out]
    have HV := Lib.hid (hJ2 _ _ h2)
    clear h2 hJ2 hT2 HW
    go_wp2
    go_ret
    exact ⟨rfl, HV.out.drop [setA _ _] _⟩
end Go.Proofs.Ytelkanfmhfopnaa

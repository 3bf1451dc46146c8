/- The walks of Meets and Has. -/
import Derived.Test.YtelkanfmhfopnaaRight
namespace Go.Proofs.Ytelkanfmhfopnaa
open Go.RowKit Go.LawEnd Go.Shelf

/-- do two spans meet? -/
def meetB (x y : Sp) : Bool := decide (y.1 < en x) && decide (x.1 < en y)
def meetsF (l : List Sp) (x : Sp) : Bool := mayB x && !decide (x.2 = 0) && l.any (meetB x)

/-- the closure: x lies boxed at P -/
theorem meets1_any (P : Nat) (x y : Sp) (w : World) (h : Hid (Blk w P 26 #[.int .i64 x.1, .int .i64 x.2])) (hx : Hid (May x)) (hy : Hid (0 ≤ y.1 ∧ 0 ≤ y.2 ∧ en y ≤ 1048576)) :
    Calls Try.prog 32 #[.agg #[.int .i64 y.1, .int .i64 y.2], .pointer (some ⟨P, 0, none⟩)] w fun e w' => e = .returned (.bool (meetB x y)) ∧ Below w.heap.size w w' := by
  obtain ⟨x0, x1⟩ := x
  obtain ⟨y0, y1⟩ := y
  have hxx := hx.out
  have hyy := hy.out
  simp only [May, en] at hxx hyy
  obtain ⟨hx0, hx1, hx2⟩ := hxx
  obtain ⟨hy0, hy1, hy2⟩ := hyy
  obtain ⟨P2, hP2⟩ : ∃ y, y = w.heap.size := ⟨_, rfl⟩
  obtain ⟨V, hV⟩ : ∃ y, y = w.alloc (.cells #[.int .i64 y0, .int .i64 y1] 26) := ⟨_, rfl⟩
  have HB : Hid (Below w.heap.size w V) := by rw [hV]; exact (Below.refl w.heap.size w).alloc (Nat.le_refl _) _
  have HP : Hid (Blk V P2 26 #[.int .i64 y0, .int .i64 y1]) := by rw [hV, hP2]; exact Blk.new _ _ _
  have HX : Hid (Blk V P 26 #[.int .i64 x0, .int .i64 x1]) := h.out.below HB.out h.out.lt
  have k0 : ∀ q : ExtB V.heap.size V, q.w.cell? ⟨P2, 0, none⟩ = some (.int .i64 y0) := fun q => by simpa using (HP.out.below q.below HP.out.lt).cell 0
  have k1 : ∀ q : ExtB V.heap.size V, q.w.cell? ⟨P2, 1, none⟩ = some (.int .i64 y1) := fun q => by simpa using (HP.out.below q.below HP.out.lt).cell 1
  have k2 : ∀ q : ExtB V.heap.size V, q.w.cell? ⟨P, 0, none⟩ = some (.int .i64 x0) := fun q => by simpa using (HX.out.below q.below HX.out.lt).cell 0
  have k3 : ∀ q : ExtB V.heap.size V, q.w.cell? ⟨P, 1, none⟩ = some (.int .i64 x1) := fun q => by simpa using (HX.out.below q.below HX.out.lt).cell 1
  have HZ : Hid (meetB (x0, x1) (y0, y1) = (decide (y0 < x0 + x1) && decide (x0 < y0 + y1))) := rfl
  obtain ⟨a, ha⟩ : ∃ a, decide (y0 < x0 + x1) = a := ⟨_, rfl⟩
  obtain ⟨b, hb⟩ : ∃ b, decide (x0 < y0 + y1) = b := ⟨_, rfl⟩
  rw [ha, hb] at HZ
  go_enter Try.func32, Try.ntmps32
  go_wp2_with fail
  rw [← hV, ← hP2]
  clear hV hP2
  cases a
  all_goals
    refine wp_region_quiet_below (by kernel_rfl) (by kernel_rfl) ?_
    repeat (go_big_quiet_step ((go_at_call 33; exact calls_ext (Nat.le_refl _) _ (end_at _ _ _ (by omega) (by omega) (by omega) (by omega)))))
    refine wpQuiet_nil ?_
    intro W2 hw2
    obtain ⟨q, hq⟩ := hw2
    have hb2 := q.below
    rw [← hq] at hb2
    clear hq q k0 k1 k2 k3
    have HB2 := Lib.hid (HB.out.trans (hb2.mono HB.out.size))
    clear hb2
    go_wp2
    go_ret
    rw [HZ.out]
    exact ⟨rfl, HB2.out⟩

set_option maxHeartbeats 3200000 in
theorem indexFunc_any (P : Nat) (x : Sp) (A : Option Addr) (c : Nat) (l : List Sp) (w : World) (h : Hid (Blk w P 26 #[.int .i64 x.1, .int .i64 x.2])) (hx : Hid (May x)) (ha : Hid (SpArg w A l)) (hs : Hid (∀ y ∈ l, 0 ≤ y.1 ∧ 0 ≤ y.2 ∧ en y ≤ 1048576)) (la : l.length ≤ 2000000) :
    Calls Try.prog 40 #[.slice A l.length c, .func (.func 32) #[] #[.pointer (some ⟨P, 0, none⟩)]] w fun e w' => ∃ r : Int, e = .returned (.int .i64 r) ∧ (0 ≤ r ↔ l.any (meetB x) = true) ∧ Below w.heap.size w w' := by
  go_enter Try.func40, Try.ntmps40
  go_wp2_with fail
  go_loopw [8] (fun i wr => ∃ k : Nat, k ≤ l.length ∧ i = .int .i64 k ∧ Hid ((l.take k).any (meetB x) = false) ∧ Hid (Below w.heap.size w wr)) (fun i _ => l.length - (intOf i).toNat)
  case atStart => exact ⟨0, by omega, rfl, rfl, Below.refl _ _⟩
  case round =>
    obtain ⟨k, hk, rfl, HT, HB⟩ := hrel
    by_cases hkl : k < l.length
    · obtain ⟨b, off, rfl, hlt, p0, p1⟩ := ha.out k hkl
      have HY := Lib.hid (hs.out l[k] (List.getElem_mem hkl))
      have hts : l.take (k + 1) = l.take k ++ [l[k]] := List.take_succ_eq_append_getElem hkl
      have hmem : l[k] ∈ l := List.getElem_mem hkl
      obtain ⟨y, hy⟩ : ∃ y, y = l[k] := ⟨_, rfl⟩
      rw [← hy] at p0 p1 HY hts hmem
      clear hy
      obtain ⟨y0, y1⟩ := y
      have HTS := Lib.hid hts
      have HMM := Lib.hid hmem
      have k0 : wr.cell? ⟨b, off + k * 2, none⟩ = some (.int .i64 y0) := (HB.out.cell (p := ⟨b, off + k * 2, none⟩) hlt).trans p0
      have k1 : wr.cell? ⟨b, off + k * 2 + 1, none⟩ = some (.int .i64 y1) := (HB.out.cell (p := ⟨b, off + k * 2 + 1, none⟩) hlt).trans p1
      have HX := Lib.hid (h.out.below HB.out h.out.lt)
      clear p0 p1 hts hmem hlt
      go_wp2_with fail
      refine (meets1_any P x (y0, y1) _ HX hx HY).mono ?_
      rintro e W2 ⟨rfl, hb2⟩
      have HB2 := Lib.hid (HB.out.trans (hb2.mono HB.out.size))
      clear hb2 k0 k1
      cases hm : meetB x (y0, y1)
      · have HT2 : Hid ((l.take (k + 1)).any (meetB x) = false) := by show _ = _; rw [HTS.out, List.any_append, HT.out]; simp [hm]
        clear hm
        go_wp2
        go_roundw
        case rel => exact ⟨k + 1, by omega, by go_num, HT2, HB2⟩
        case measure => simp [intOf]; omega
      · have HA : Hid (l.any (meetB x) = true) := List.any_eq_true.2 ⟨_, HMM.out, hm⟩
        clear hm
        go_wp2
        go_ret
        exact ⟨(k : Int), rfl, ⟨fun _ => HA.out, fun _ => by omega⟩, HB2.out⟩
    · have HA : Hid (l.any (meetB x) = false) := by
        have h1 := HT.out
        rw [List.take_of_length_le (by omega)] at h1
        exact h1
      go_wp2
      go_ret
      exact ⟨-1, rfl, ⟨fun h => by omega, fun h => by rw [HA.out] at h; cases h⟩, HB.out⟩
theorem containsFunc_any (P : Nat) (x : Sp) (A : Option Addr) (c : Nat) (l : List Sp) (w : World) (h : Hid (Blk w P 26 #[.int .i64 x.1, .int .i64 x.2])) (hx : Hid (May x)) (ha : Hid (SpArg w A l)) (hs : Hid (∀ y ∈ l, 0 ≤ y.1 ∧ 0 ≤ y.2 ∧ en y ≤ 1048576)) (la : l.length ≤ 2000000) :
    Calls Try.prog 31 #[.slice A l.length c, .func (.func 32) #[] #[.pointer (some ⟨P, 0, none⟩)]] w fun e w' => e = .returned (.bool (l.any (meetB x))) ∧ Below w.heap.size w w' := by
  have HI := Lib.hid (indexFunc_any P x A c l w h hx ha hs la)
  go_enter Try.func31, Try.ntmps31
  go_wp2_with fail
  refine HI.out.mono ?_
  rintro e W2 ⟨r, rfl, hr, hb⟩
  have HR : Hid (decide (0 ≤ r) = l.any (meetB x)) := by
    show _ = _
    cases hl : l.any (meetB x)
    · rw [decide_eq_false_iff_not]; intro h; rw [hr.1 h] at hl; cases hl
    · rw [decide_eq_true_iff]; exact hr.2 hl
  have HB := Lib.hid hb
  clear hr hb
  go_wp2
  go_ret
  rw [← HR.out]
  exact ⟨rfl, HB.out⟩
end Go.Proofs.Ytelkanfmhfopnaa

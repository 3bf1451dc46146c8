/- The document's index: Right, At, Put, Drop, Clean. -/
import Derived.Test.YtofeodhekpnpaaaRefNew
namespace Go.Proofs.Ytofeodhekpnpaaa
open Go.RowKit Go.LawEnd

section
variable {w w' : World} {B r k slots : Nat} {vS vD : Value} {sl : List Int} {dl : List Bool}
theorem RI.formS (h : RI B w r k slots vS vD sl dl) : ∃ A c, vS = .slice A k c := (Rd.of_own h.rowS).form
theorem RI.formD (h : RI B w r k slots vS vD sl dl) : ∃ A c, vD = .slice A k c := (Rd.of_own h.rowD).form
theorem right_in (i : Nat) (h : Hid (RI B w r k slots vS vD sl dl)) (hi : i < k) : Calls Try.prog 37 #[.pointer (some ⟨r, 0, none⟩), .int .i64 (i : Int)] w fun e w' => e = .returned (.bool true) ∧ w = w' := by
  obtain ⟨A, c, rfl⟩ := h.out.formS
  have c0 := h.out.head.cell 0
  simp at c0
  go_enter Try.func37, Try.ntmps37
  go_wp2
  go_ret
  exact ⟨rfl, rfl⟩
theorem right_out (i : Int) (h : Hid (RI B w r k slots vS vD sl dl)) (hi : i < 0 ∨ (k : Int) ≤ i) : Calls Try.prog 37 #[.pointer (some ⟨r, 0, none⟩), .int .i64 i] w fun e w' => e = .returned (.bool false) ∧ w = w' := by
  obtain ⟨A, c, rfl⟩ := h.out.formS
  have c0 := h.out.head.cell 0
  simp at c0
  by_cases h0 : i < 0
  · clear hi
    go_enter Try.func37, Try.ntmps37
    go_wp2
    go_ret
    exact ⟨rfl, rfl⟩
  · have h1 : (k : Int) ≤ i := by omega
    have hd : Hid (decide (i < (k : Int)) = false) := by show _ = _; rw [decide_eq_false_iff_not]; omega
    clear hi
    go_enter Try.func37, Try.ntmps37
    go_wp2
    go_ret
    exact ⟨by show Ending.returned (.bool (decide (i < (k : Int)))) = _; rw [hd.out], rfl⟩

set_option maxHeartbeats 800000 in
theorem ref_at_none (s : Int) (h : Hid (RI B w r k slots vS vD sl dl)) (hk : k ≤ 4096) (hs : Hid (∀ x, x ∈ sl → (x == s) = false)) : Calls Try.prog 38 #[.pointer (some ⟨r, 0, none⟩), .int .i64 s] w fun e w' => e = .returned (.int .i64 (-1)) ∧ w = w' := by
  obtain ⟨A, c, rfl⟩ := h.out.formS
  have c0 := h.out.head.cell 0
  simp at c0
  have hrd := Rd.of_own h.out.rowS
  have hlen : Hid (sl.length = k) := by
    show _ = _
    have := hrd.1
    simpa [ints] using this
  have HRD := Lib.hid hrd
  clear hrd
  go_enter Try.func38, Try.ntmps38
  go_wp2
  go_loopw [5] (fun i wr => ∃ j : Nat, j ≤ k ∧ i = .int .i64 j ∧ w = wr) (fun i _ => k - (intOf i).toNat)
  case atStart => exact ⟨0, by omega, rfl, rfl⟩
  case round =>
    obtain ⟨j, hj, rfl, rfl⟩ := hrel
    by_cases hjk : j < k
    · obtain ⟨b, off, rfl, hbl, hkl, hcell⟩ := HRD.out.at_ hjk
      obtain ⟨x, hx⟩ : ∃ x, sl[j]'(by have := hlen.out; omega) = x := ⟨_, rfl⟩
      have hcx : w.cell? ⟨b, off + j, none⟩ = some (.int .i64 x) := by rw [hcell, ← hx]; simp [ints]
      have hxs : (x == s) = false := hs.out x (by rw [← hx]; exact List.getElem_mem _)
      clear hcell hx hkl
      go_wp2
      go_roundw
      case rel => exact ⟨j + 1, by omega, by go_num, by trivial⟩
      case measure => simp [intOf]; omega
    · go_wp2
      go_ret
      exact ⟨rfl, rfl⟩

theorem ref_put_out (i s : Int) (d : Bool) (h : Hid (RI B w r k slots vS vD sl dl)) (hi : (i < 0 ∨ (k : Int) ≤ i) ∨ s < 0 ∨ (slots : Int) ≤ s) : Calls Try.prog 25 #[.pointer (some ⟨r, 0, none⟩), .int .i64 i, .int .i64 s, .bool d] w fun e w' => e = .returned (.tuple #[.int .i64 0, .bool false, .int .i64 10]) ∧ w = w' := by
  have c2 := h.out.head.cell 2
  simp at c2
  by_cases hr : i < 0 ∨ (k : Int) ≤ i
  · clear hi
    go_enter Try.func25, Try.ntmps25
    go_wp2_with fail
    refine (right_out i h hr).mono ?_
    rintro e w' ⟨rfl, rfl⟩
    go_wp2
    refine bodyPost_ret (results_tmp3 rfl _ _ _) rfl ?_
    exact ⟨rfl, rfl⟩
  · obtain ⟨j, rfl⟩ : ∃ j : Nat, i = j := ⟨i.toNat, by omega⟩
    have hj : j < k := by omega
    clear hr
    by_cases h0 : s < 0
    · clear hi
      go_enter Try.func25, Try.ntmps25
      go_wp2_with fail
      refine (right_in j h hj).mono ?_
      rintro e w' ⟨rfl, rfl⟩
      go_wp2
      refine bodyPost_ret (results_tmp3 rfl _ _ _) rfl ?_
      exact ⟨rfl, rfl⟩
    · have h1 : (slots : Int) ≤ s := by omega
      clear hi
      go_enter Try.func25, Try.ntmps25
      go_wp2_with fail
      refine (right_in j h hj).mono ?_
      rintro e w' ⟨rfl, rfl⟩
      go_wp2
      refine bodyPost_ret (results_tmp3 rfl _ _ _) rfl ?_
      exact ⟨rfl, rfl⟩
theorem ref_drop_out (i : Int) (h : Hid (RI B w r k slots vS vD sl dl)) (hi : i < 0 ∨ (k : Int) ≤ i) : Calls Try.prog 27 #[.pointer (some ⟨r, 0, none⟩), .int .i64 i] w fun e w' => e = .returned (.tuple #[.int .i64 0, .bool false, .int .i64 10]) ∧ w = w' := by
  go_enter Try.func27, Try.ntmps27
  go_wp2_with fail
  refine (right_out i h hi).mono ?_
  rintro e w' ⟨rfl, rfl⟩
  go_wp2
  refine bodyPost_ret (results_tmp3 rfl _ _ _) rfl ?_
  exact ⟨rfl, rfl⟩
theorem ref_clean_out (i : Int) (h : Hid (RI B w r k slots vS vD sl dl)) (hi : i < 0 ∨ (k : Int) ≤ i) : Calls Try.prog 28 #[.pointer (some ⟨r, 0, none⟩), .int .i64 i] w fun e w' => e = .returned (.int .i64 10) ∧ w = w' := by
  go_enter Try.func28, Try.ntmps28
  go_wp2_with fail
  refine (right_out i h hi).mono ?_
  rintro e w' ⟨rfl, rfl⟩
  go_wp2
  go_ret
  exact ⟨rfl, rfl⟩
theorem RI.readS (h : RI B w r k slots vS vD sl dl) (j : Nat) (hj : j < k) {x : Int} (hx : sl[j]? = some x) : ∃ g c, vS = .slice (some ⟨g, 0, none⟩) k c ∧ w.cell? ⟨g, j, none⟩ = some (.int .i64 x) ∧ w.frozen? ⟨g, j, none⟩ = false := by
  rcases h.rowS.2 with ⟨_, h0⟩ | ⟨g, cap, cur, rfl, _⟩
  · omega
  · refine ⟨g, cap, rfl, ?_, h.rowS.frozenAt j⟩
    rw [h.rowS.cellAt j (by omega)]
    simp [ints, hx]
theorem RI.readD (h : RI B w r k slots vS vD sl dl) (j : Nat) (hj : j < k) {x : Bool} (hx : dl[j]? = some x) : ∃ g c, vD = .slice (some ⟨g, 0, none⟩) k c ∧ w.cell? ⟨g, j, none⟩ = some (.bool x) ∧ w.frozen? ⟨g, j, none⟩ = false := by
  rcases h.rowD.2 with ⟨_, h0⟩ | ⟨g, cap, cur, rfl, _⟩
  · omega
  · refine ⟨g, cap, rfl, ?_, h.rowD.frozenAt j⟩
    rw [h.rowD.cellAt j (by omega)]
    simp [bools, hx]
theorem ref_drop_none (i : Nat) (s : Int) (h : Hid (RI B w r k slots vS vD sl dl)) (hi : i < k) (hx : sl[i]? = some s) (hs : s < 0) : Calls Try.prog 27 #[.pointer (some ⟨r, 0, none⟩), .int .i64 (i : Int)] w fun e w' => e = .returned (.tuple #[.int .i64 0, .bool false, .int .i64 14]) ∧ w = w' := by
  obtain ⟨g, c, rfl, hc, _⟩ := h.out.readS i hi hx
  have c0 := h.out.head.cell 0
  simp at c0
  clear hx
  go_enter Try.func27, Try.ntmps27
  go_wp2_with fail
  refine (right_in i h hi).mono ?_
  rintro e w' ⟨rfl, rfl⟩
  go_wp2
  refine bodyPost_ret (results_tmp3 rfl _ _ _) rfl ?_
  exact ⟨rfl, rfl⟩
theorem ref_clean_none (i : Nat) (s : Int) (h : Hid (RI B w r k slots vS vD sl dl)) (hi : i < k) (hx : sl[i]? = some s) (hs : s < 0) : Calls Try.prog 28 #[.pointer (some ⟨r, 0, none⟩), .int .i64 (i : Int)] w fun e w' => e = .returned (.int .i64 14) ∧ w = w' := by
  obtain ⟨g, c, rfl, hc, _⟩ := h.out.readS i hi hx
  have c0 := h.out.head.cell 0
  simp at c0
  clear hx
  go_enter Try.func28, Try.ntmps28
  go_wp2_with fail
  refine (right_in i h hi).mono ?_
  rintro e w' ⟨rfl, rfl⟩
  go_wp2
  go_ret
  exact ⟨rfl, rfl⟩

set_option maxHeartbeats 1600000 in
theorem ref_put_ok (i : Nat) (s s0 : Int) (d d0 : Bool) (h : Hid (RI B w r k slots vS vD sl dl)) (hi : i < k) (hk : k ≤ 4096) (h0 : 0 ≤ s) (h1 : s < slots) (hx : Hid (sl[i]? = some s0)) (hy : Hid (dl[i]? = some d0)) (hn : Hid (∀ x, x ∈ sl → (x == s) = false)) :
    Calls Try.prog 25 #[.pointer (some ⟨r, 0, none⟩), .int .i64 (i : Int), .int .i64 s, .bool d] w fun e w' => e = .returned (.tuple #[.int .i64 s0, .bool d0, .int .i64 0]) ∧ Below B w w' ∧ Ch (fun j => vS.ownBlock = some j ∨ vD.ownBlock = some j) w w' := by
  obtain ⟨g, c, rfl, hc, hcf⟩ := h.out.readS i hi hx.out
  obtain ⟨g', c', rfl, hd, hdf⟩ := h.out.readD i hi hy.out
  have c0 := h.out.head.cell 0
  have c1 := h.out.head.cell 1
  have c2 := h.out.head.cell 2
  simp at c0 c1 c2
  have hgB : B ≤ g := (h.out.rowS.lt g rfl).1
  have hgB' : B ≤ g' := (h.out.rowD.lt g' rfl).1
  have hgg : g ≠ g' := by
    rcases own_ap h.out.rowS h.out.rowD (by decide) with e | e
    · cases e
    · exact fun e' => e (by rw [e']; rfl)
  have hgr : g ≠ r := by
    rcases own_far h.out.rowS h.out.head (by decide) with e | e
    · cases e
    · exact fun e' => e (by rw [e']; rfl)
  go_enter Try.func25, Try.ntmps25
  go_wp2_with fail
  refine (right_in i h hi).mono ?_
  rintro e w' ⟨rfl, rfl⟩
  go_wp2_with fail
  refine (ref_at_none s h hk hn).mono ?_
  rintro e w' ⟨rfl, rfl⟩
  go_wp2
  go_ret3
  refine ⟨rfl, ?_, ((Ch.refl _ w).setCell (p := ⟨g, i, none⟩) (.inl (.inl rfl)) _).setCell (p := ⟨g', i, none⟩) (.inl (.inr rfl)) _⟩
  exact ((Below.refl B w).setCell (p := ⟨g, i, none⟩) hgB _).setCell (p := ⟨g', i, none⟩) hgB' _
end
end Go.Proofs.Ytofeodhekpnpaaa

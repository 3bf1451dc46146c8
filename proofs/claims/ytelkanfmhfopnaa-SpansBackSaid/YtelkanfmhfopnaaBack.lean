/- The walk of SpansBack. -/
import Derived.Test.YtelkanfmhfopnaaMoves
import Derived.Test.YtelkanfmhfopnaaTotal
import Derived.Test.YtelkanfmhfopnaaMeets2
import Derived.Test.YtelkanfmhfopnaaCopy
import Derived.Test.YtelkanfmhfopnaaSame2
namespace Go.Proofs.Ytelkanfmhfopnaa
open Go.RowKit Go.LawEnd

set_option maxRecDepth 100000 in
set_option maxHeartbeats 6400000 in
theorem back_main (A : Option Addr) (cp : Nat) (l : List Sp) (x : Sp) (w : World) (h : Hid (SpArg w A l)) (hl : l.length ≤ 40) (hi : Hid (∀ y ∈ l, I64 y)) (hx : I64 x) :
    Calls Try.prog 8 #[.slice A l.length cp, .agg #[.int .i64 x.1, .int .i64 x.2]] w (Yes w) := by
  obtain ⟨x0, x1⟩ := x
  have HX := Lib.hid hx
  have d0 : decide ((40 : Int) < (l.length : Int)) = false := decide_eq_false (by omega)
  obtain ⟨P3, hP3⟩ : ∃ y, y = w.heap.size := ⟨_, rfl⟩
  obtain ⟨V, hV⟩ : ∃ y, y = w.alloc (.cells #[.int .i64 x0, .int .i64 x1] 26) := ⟨_, rfl⟩
  have HW : Hid (Hv w No [blkA P3 26 #[.int .i64 x0, .int .i64 x1]] V) := by
    rw [hV, hP3]
    exact (Hv.begin w).alloc 26 #[.int .i64 x0, .int .i64 x1]
  have HA : Hid (SpArg V A l) := h.out.below HW.out.below
  clear hx
  go_enter Try.func8, Try.ntmps8
  go_wp2_with fail
  rw [← hV, ← hP3]
  clear hV hP3 h d0
  by_cases hm : ∀ y ∈ l, mayB y = true
  · refine (new_may A cp l V HA (by omega) hi hm).mono ?_
    rintro e w1 ⟨s, rfl, h1⟩
    obtain ⟨S, hS⟩ : ∃ S, S = newF l := ⟨_, rfl⟩
    have HO : Hid (OkS S) := by show OkS S; rw [hS]; exact (newF_ok fun x hx => (mayB_iff x).1 (hm x hx)).1
    rw [← hS] at h1
    have HV1 : Hid (Hv w No [setA s S, blkA P3 26 #[.int .i64 x0, .int .i64 x1]] w1) := (HW.out.add h1).pick [0, 1]
    clear h1 HW hS hm HA
    have k0 : w1.cell? ⟨P3, 0, none⟩ = some (.int .i64 x0) := by simpa using (HV1.out.blk (i := 1) rfl).cell 0
    have k1 : w1.cell? ⟨P3, 1, none⟩ = some (.int .i64 x1) := by simpa using (HV1.out.blk (i := 1) rfl).cell 1
    go_wp2_with fail
    refine (right_any (x0, x1) _ HX.out).mono ?_
    rintro e w2 ⟨rfl, hb2⟩
    have HV := Lib.hid (HV1.out.still hb2)
    clear hb2 HV1 k0 k1
    cases hmx : mayB (x0, x1)
    · go_wp2_with fail
      refine (awake_any _).mono ?_
      rintro e w8 ⟨rfl, hb8⟩
      have HV8 := Lib.hid (HV.out.still hb8)
      clear hb8 HV
      go_wp2
      go_ret
      exact ⟨rfl, HV8.out.below⟩
    · have HMX := Lib.hid ((mayB_iff _).1 hmx)
      have HMB := Lib.hid hmx
      clear hmx
      have HLS : Hid (S.length ≤ 2000000) := Nat.le_trans HO.out.len (by omega)
      obtain ⟨t, ht⟩ : ∃ t, t = total S := ⟨_, rfl⟩
      obtain ⟨n, hn⟩ : ∃ n, n = insideN S (x0, x1) := ⟨_, rfl⟩
      obtain ⟨C, hC⟩ : ∃ C, C = cutF S (x0, x1) := ⟨_, rfl⟩
      obtain ⟨D, hD⟩ : ∃ D, D = addF S (x0, x1) := ⟨_, rfl⟩
      obtain ⟨hx0, hx1, hx2⟩ := HMX.out
      unfold en at hx2
      simp only [] at hx0 hx1 hx2
      obtain ⟨m, hm⟩ : ∃ m, m = x1 - n := ⟨_, rfl⟩
      have HOC : Hid (OkS C) := by show OkS C; rw [hC]; exact (cut_ok HO.out HMX.out).1
      have HOD : Hid (OkS D) := by show OkS D; rw [hD]; exact (add_ok HO.out HMX.out).1
      have HLC : Hid (C.length ≤ 2000000) := Nat.le_trans HOC.out.len (by omega)
      have HLD : Hid (D.length ≤ 2000000) := Nat.le_trans HOD.out.len (by omega)
      have HTC : Hid (total C = t - n) := by show _ = _; rw [hC, ht, hn]; exact total_cut HO.out HMX.out
      have HTD : Hid (total D = t + m) := by
        show _ = _
        rw [hD, ht, hm, hn, total_add HO.out HMX.out]
        simp only []
        omega
      have HDC : Hid (cutF D (x0, x1) = C) := by show _ = _; rw [hC, hD]; exact cut_add HO.out HMX.out
      have HCD : Hid (addF C (x0, x1) = D) := by show _ = _; rw [hC, hD]; exact add_cut HO.out HMX.out
      have HMC : Hid (meetsF C (x0, x1) = false) := by show _ = _; rw [hC]; exact meets_cut HO.out HMX.out
      have HMS : Hid (meetsF S (x0, x1) = decide (0 < n)) := by show _ = _; rw [hn]; exact meets_inside HO.out HMX.out
      have hr : 0 ≤ n ∧ n ≤ x1 := by
        have := cnt_range (p := fun i => memB S (x0 + i)) (m := x1.toNat)
        rw [hn]; unfold insideN; simp only []; omega
      have htr : 0 ≤ t ∧ t ≤ 1048576 := by rw [ht]; exact oks_total HO.out
      have a1 : IntKind.i64.wrap (t + m - t) = m := by rw [IntWalk.i64_in _ (by omega)]; omega
      have a2 : IntKind.i64.wrap (t - (t - n)) = n := by rw [IntWalk.i64_in _ (by omega)]; omega
      have a3 : IntKind.i64.wrap (m + n) = x1 := by rw [IntWalk.i64_in _ (by omega)]; omega
      have ht' := Lib.hid ht
      have hC' := Lib.hid hC
      have hD' := Lib.hid hD
      clear hn hm hr htr ht hC hD
      have ht := ht'
      have hC := hC'
      have hD := hD'
      clear ht' hC' hD'
      go_wp2_with fail
      have HW : Hid (Hv w No [setA s S, blkA P3 26 #[.int .i64 x0, .int .i64 x1]] w2) := HV.out.pick [0, 1]
      clear HV
      obtain ⟨T, hT, hJ⟩ := Hv.use [setA s S] _ HW.out
      have HT := Lib.hid hT
      clear hT
      refine (copy_any s S _ HT HLS.out).mono ?_
      rintro e w3 ⟨c, rfl, h5⟩
      have HV : Hid (Hv w No [setA c S, setA s S, blkA P3 26 #[.int .i64 x0, .int .i64 x1]] w3) := HW.out.add h5
      clear h5 HT hJ HW
      go_wp2_with fail
      have HW : Hid (Hv w No [setA s S, setA c S, blkA P3 26 #[.int .i64 x0, .int .i64 x1]] w3) := HV.out.pick [1, 0, 2]
      clear HV
      obtain ⟨T, hT, hJ⟩ := Hv.use [setA s S] _ HW.out
      have HT := Lib.hid hT
      clear hT
      refine (copy_any s S _ HT HLS.out).mono ?_
      rintro e w4 ⟨d, rfl, h5⟩
      have HV : Hid (Hv w No [setA d S, setA s S, setA c S, blkA P3 26 #[.int .i64 x0, .int .i64 x1]] w4) := HW.out.add h5
      clear h5 HT hJ HW
      go_wp2_with fail
      have HW : Hid (Hv w No [setA s S, setA c S, setA d S, blkA P3 26 #[.int .i64 x0, .int .i64 x1]] w4) := HV.out.pick [1, 2, 0, 3]
      clear HV
      obtain ⟨T, hT, hJ⟩ := Hv.use [setA s S] _ HW.out
      have HT := Lib.hid hT
      clear hT
      refine (len_any s S _ HT HO).mono ?_
      rintro e w5 ⟨rfl, hb⟩
      rw [← ht.out]
      have HV := Lib.hid (HW.out.still hb)
      clear hb HT hJ HW
      have k0 : w5.cell? ⟨P3, 0, none⟩ = some (.int .i64 x0) := by simpa using (HV.out.blk (i := 3) rfl).cell 0
      have k1 : w5.cell? ⟨P3, 1, none⟩ = some (.int .i64 x1) := by simpa using (HV.out.blk (i := 3) rfl).cell 1
      go_wp2_with fail
      have HW : Hid (Hv w No [setA c S, setA s S, setA d S, blkA P3 26 #[.int .i64 x0, .int .i64 x1]] w5) := HV.out.pick [1, 0, 2, 3]
      clear HV
      obtain ⟨T, hT, hJ⟩ := Hv.use [setA c S] _ HW.out
      have HT := Lib.hid hT
      clear hT
      refine (cut_may c S (x0, x1) _ HT HO HMB.out).mono ?_
      rintro e w6 ⟨rfl, h5⟩
      rw [← hC.out] at h5
      have HV : Hid (Hv w No [setA c C, setA s S, setA d S, blkA P3 26 #[.int .i64 x0, .int .i64 x1]] w6) := hJ _ _ h5
      clear h5 HT hJ HW k0 k1
      have k0 : w6.cell? ⟨P3, 0, none⟩ = some (.int .i64 x0) := by simpa using (HV.out.blk (i := 3) rfl).cell 0
      have k1 : w6.cell? ⟨P3, 1, none⟩ = some (.int .i64 x1) := by simpa using (HV.out.blk (i := 3) rfl).cell 1
      go_wp2_with fail
      have HW : Hid (Hv w No [setA d S, setA s S, setA c C, blkA P3 26 #[.int .i64 x0, .int .i64 x1]] w6) := HV.out.pick [2, 1, 0, 3]
      clear HV
      obtain ⟨T, hT, hJ⟩ := Hv.use [setA d S] _ HW.out
      have HT := Lib.hid hT
      clear hT
      refine (add_may d S (x0, x1) _ HT HO HMB.out).mono ?_
      rintro e w7 ⟨rfl, h5⟩
      rw [← hD.out] at h5
      have HV : Hid (Hv w No [setA d D, setA s S, setA c C, blkA P3 26 #[.int .i64 x0, .int .i64 x1]] w7) := hJ _ _ h5
      clear h5 HT hJ HW k0 k1
      go_wp2_with fail
      have HW : Hid (Hv w No [setA d D, setA s S, setA c C, blkA P3 26 #[.int .i64 x0, .int .i64 x1]] w7) := HV.out.pick [0, 1, 2, 3]
      clear HV
      obtain ⟨T, hT, hJ⟩ := Hv.use [setA d D] _ HW.out
      have HT := Lib.hid hT
      clear hT
      refine (len_any d D _ HT HOD).mono ?_
      rintro e w8 ⟨rfl, hb⟩
      rw [HTD.out]
      have HV := Lib.hid (HW.out.still hb)
      clear hb HT hJ HW
      go_wp2_with fail
      have HW : Hid (Hv w No [setA c C, setA s S, setA d D, blkA P3 26 #[.int .i64 x0, .int .i64 x1]] w8) := HV.out.pick [2, 1, 0, 3]
      clear HV
      obtain ⟨T, hT, hJ⟩ := Hv.use [setA c C] _ HW.out
      have HT := Lib.hid hT
      clear hT
      refine (len_any c C _ HT HOC).mono ?_
      rintro e w9 ⟨rfl, hb⟩
      rw [HTC.out]
      have HV := Lib.hid (HW.out.still hb)
      clear hb HT hJ HW
      have k0 : w9.cell? ⟨P3, 0, none⟩ = some (.int .i64 x0) := by simpa using (HV.out.blk (i := 3) rfl).cell 0
      have k1 : w9.cell? ⟨P3, 1, none⟩ = some (.int .i64 x1) := by simpa using (HV.out.blk (i := 3) rfl).cell 1
      go_wp2_with fail
      have HW : Hid (Hv w No [setA d D, setA s S, setA c C, blkA P3 26 #[.int .i64 x0, .int .i64 x1]] w9) := HV.out.pick [2, 1, 0, 3]
      clear HV
      obtain ⟨T, hT, hJ⟩ := Hv.use [setA d D] _ HW.out
      have HT := Lib.hid hT
      clear hT
      refine (cut_may d D (x0, x1) _ HT HOD HMB.out).mono ?_
      rintro e w10 ⟨rfl, h5⟩
      rw [HDC.out] at h5
      have HV : Hid (Hv w No [setA d C, setA s S, setA c C, blkA P3 26 #[.int .i64 x0, .int .i64 x1]] w10) := hJ _ _ h5
      clear h5 HT hJ HW k0 k1
      go_wp2_with fail
      have HW : Hid (Hv w No [setA c C, setA d C, setA s S, blkA P3 26 #[.int .i64 x0, .int .i64 x1]] w10) := HV.out.pick [2, 0, 1, 3]
      clear HV
      obtain ⟨T, hT, hJ⟩ := Hv.use [setA c C, setA d C] _ HW.out
      have HT := Lib.hid hT
      clear hT
      refine (same_any c d C C _ HT HLC.out).mono ?_
      rintro e w11 ⟨rfl, hb⟩
      rw [show decide (C = C) = true by simp]
      have HV := Lib.hid (HW.out.still hb)
      clear hb HT hJ HW
      have k0 : w11.cell? ⟨P3, 0, none⟩ = some (.int .i64 x0) := by simpa using (HV.out.blk (i := 3) rfl).cell 0
      have k1 : w11.cell? ⟨P3, 1, none⟩ = some (.int .i64 x1) := by simpa using (HV.out.blk (i := 3) rfl).cell 1
      go_wp2_with fail
      have HW : Hid (Hv w No [setA c C, setA s S, setA d C, blkA P3 26 #[.int .i64 x0, .int .i64 x1]] w11) := HV.out.pick [0, 2, 1, 3]
      clear HV
      obtain ⟨T, hT, hJ⟩ := Hv.use [setA c C] _ HW.out
      have HT := Lib.hid hT
      clear hT
      refine (meets_any c C (x0, x1) _ HT HOC (by simp only []; omega) (by simp only []; omega)).mono ?_
      rintro e w12 ⟨rfl, hb⟩
      rw [HMC.out]
      have HV := Lib.hid (HW.out.still hb)
      clear hb HT hJ HW k0 k1
      go_wp2_with fail
      have HW : Hid (Hv w No [setA s S, setA c C, setA d C, blkA P3 26 #[.int .i64 x0, .int .i64 x1]] w12) := HV.out.pick [1, 0, 2, 3]
      clear HV
      obtain ⟨T, hT, hJ⟩ := Hv.use [setA s S] _ HW.out
      have HT := Lib.hid hT
      clear hT
      refine (len_any s S _ HT HO).mono ?_
      rintro e w13 ⟨rfl, hb⟩
      rw [← ht.out]
      have HV := Lib.hid (HW.out.still hb)
      clear hb HT hJ HW
      have k0 : w13.cell? ⟨P3, 0, none⟩ = some (.int .i64 x0) := by simpa using (HV.out.blk (i := 3) rfl).cell 0
      have k1 : w13.cell? ⟨P3, 1, none⟩ = some (.int .i64 x1) := by simpa using (HV.out.blk (i := 3) rfl).cell 1
      go_wp2_with fail
      have HW : Hid (Hv w No [setA s S, setA c C, setA d C, blkA P3 26 #[.int .i64 x0, .int .i64 x1]] w13) := HV.out.pick [0, 1, 2, 3]
      clear HV
      obtain ⟨T, hT, hJ⟩ := Hv.use [setA s S] _ HW.out
      have HT := Lib.hid hT
      clear hT
      refine (meets_any s S (x0, x1) _ HT HO (by simp only []; omega) (by simp only []; omega)).mono ?_
      rintro e w14 ⟨rfl, hb⟩
      rw [HMS.out]
      have HV := Lib.hid (HW.out.still hb)
      clear hb HT hJ HW k0 k1
      have k0 : w14.cell? ⟨P3, 0, none⟩ = some (.int .i64 x0) := by simpa using (HV.out.blk (i := 3) rfl).cell 0
      have k1 : w14.cell? ⟨P3, 1, none⟩ = some (.int .i64 x1) := by simpa using (HV.out.blk (i := 3) rfl).cell 1
      go_wp2_with fail
      have HW : Hid (Hv w No [setA c C, setA s S, setA d C, blkA P3 26 #[.int .i64 x0, .int .i64 x1]] w14) := HV.out.pick [1, 0, 2, 3]
      clear HV
      obtain ⟨T, hT, hJ⟩ := Hv.use [setA c C] _ HW.out
      have HT := Lib.hid hT
      clear hT
      refine (add_may c C (x0, x1) _ HT HOC HMB.out).mono ?_
      rintro e w15 ⟨rfl, h5⟩
      rw [HCD.out] at h5
      have HV : Hid (Hv w No [setA c D, setA s S, setA d C, blkA P3 26 #[.int .i64 x0, .int .i64 x1]] w15) := hJ _ _ h5
      clear h5 HT hJ HW k0 k1
      have k0 : w15.cell? ⟨P3, 0, none⟩ = some (.int .i64 x0) := by simpa using (HV.out.blk (i := 3) rfl).cell 0
      have k1 : w15.cell? ⟨P3, 1, none⟩ = some (.int .i64 x1) := by simpa using (HV.out.blk (i := 3) rfl).cell 1
      go_wp2_with fail
      have HW : Hid (Hv w No [setA s S, setA c D, setA d C, blkA P3 26 #[.int .i64 x0, .int .i64 x1]] w15) := HV.out.pick [1, 0, 2, 3]
      clear HV
      obtain ⟨T, hT, hJ⟩ := Hv.use [setA s S] _ HW.out
      have HT := Lib.hid hT
      clear hT
      refine (add_may s S (x0, x1) _ HT HO HMB.out).mono ?_
      rintro e w16 ⟨rfl, h5⟩
      rw [← hD.out] at h5
      have HV : Hid (Hv w No [setA s D, setA c D, setA d C, blkA P3 26 #[.int .i64 x0, .int .i64 x1]] w16) := hJ _ _ h5
      clear h5 HT hJ HW k0 k1
      go_wp2_with fail
      have HW : Hid (Hv w No [setA c D, setA s D, setA d C, blkA P3 26 #[.int .i64 x0, .int .i64 x1]] w16) := HV.out.pick [1, 0, 2, 3]
      clear HV
      obtain ⟨T, hT, hJ⟩ := Hv.use [setA c D, setA s D] _ HW.out
      have HT := Lib.hid hT
      clear hT
      refine (same_any c s D D _ HT HLD.out).mono ?_
      rintro e w17 ⟨rfl, hb⟩
      rw [show decide (D = D) = true by simp]
      have HV := Lib.hid (HW.out.still hb)
      clear hb HT hJ HW
      go_wp2_with fail
      refine (awake_any _).mono ?_
      rintro e w8 ⟨rfl, hb8⟩
      have HV8 := Lib.hid (HV.out.still hb8)
      clear hb8 HV
      go_wp2
      go_ret
      exact ⟨rfl, HV8.out.below⟩
  · have hmn : ∃ y ∈ l, mayB y = false := by
      simp only [Classical.not_forall] at hm
      obtain ⟨y, hy, hm⟩ := hm
      exact ⟨y, hy, by simpa using hm⟩
    refine (new_not A cp l V HA (by omega) hi hmn).mono ?_
    rintro e w1 ⟨rfl, hb1⟩
    have HV1 := Lib.hid (HW.out.still hb1)
    clear hb1 HW hm hmn HA
    go_wp2_with fail
    refine (awake_any _).mono ?_
    rintro e w8 ⟨rfl, hb8⟩
    have HV8 := Lib.hid (HV1.out.still hb8)
    clear hb8 HV1
    go_wp2
    go_ret
    exact ⟨rfl, HV8.out.below⟩

theorem back_any (A : Option Addr) (cp : Nat) (l : List Sp) (x : Sp) (w : World) (h : SpArg w A l) (hln : l.length ≤ 9223372036854775807) (hi : ∀ y ∈ l, I64 y) (hx : I64 x) :
    Calls Try.prog 8 #[.slice A l.length cp, .agg #[.int .i64 x.1, .int .i64 x.2]] w (Yes w) := by
  by_cases h1 : l.length ≤ 40
  · exact back_main A cp l x w h h1 hi hx
  · have d0 : decide ((40 : Int) < (l.length : Int)) = true := decide_eq_true (by omega)
    obtain ⟨x0, x1⟩ := x
    have HB := Lib.hid ((Below.refl w.heap.size w).alloc (Nat.le_refl _) (.cells #[.int .i64 x0, .int .i64 x1] 26))
    clear h hi hx
    go_enter Try.func8, Try.ntmps8
    go_wp2_with fail
    refine (awake_any _).mono ?_
    rintro e w' ⟨rfl, hb⟩
    have HB2 := Lib.hid (HB.out.trans (hb.mono HB.out.size))
    clear hb HB
    go_wp2
    go_ret
    exact ⟨rfl, HB2.out⟩
end Go.Proofs.Ytelkanfmhfopnaa

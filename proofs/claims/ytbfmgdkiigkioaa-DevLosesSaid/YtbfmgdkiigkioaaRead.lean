/- The walk of Read. -/
import Derived.Test.YtbfmgdkiigkioaaShown
import Derived.Test.YtbfmgdkiigkioaaCall
namespace Go.Proofs.Ytbfmgdkiigkioaa
open Go.RowKit Go.LawEnd

theorem read_do (w : World) : Calls Try.prog 42 #[] w fun e w' => (∃ v, e = .returned v) ∧ w = w' := by
  go_enter Try.func42, Try.ntmps42
  go_wp2
  refine bodyPost_end (results_none rfl _ _ _) rfl ?_
  exact ⟨⟨_, rfl⟩, rfl⟩
theorem call_shows {R : List Atom} {T : Nat → Prop} {d : Nat} {D : Dv} {w : World} {E : Int} (hp : Hid (fateD D ≠ 1)) (h : Hid (Sep (devA d D :: R) w T)) :
    Calls Try.prog 30 #[.pointer (some ⟨d, 0, none⟩), .int .i64 E, .func (.func 42) #[] #[]] w fun e w' => e = .returned (.int .i64 0) ∧ Hv w T (devA d (restD D) :: R) w' := by
  by_cases h0 : fateD D = 0
  · exact call_read (D2 := restD D) (R' := R) h0 h (Lib.hid fun W hW => (read_do W).mono fun e w' ⟨he, hw⟩ => ⟨he, by rw [← hw]; exact hW⟩)
  · exact call_drop (Lib.hid ⟨hp.out, h0⟩) h
theorem there_rest {D : Dv} {s : Int} : there (restD D) s = there D s := rfl
def readF (D : Dv) (s : Int) : Int × Int × Dv :=
  if there D s = true then (if fateD D = 1 then (0, 19, restD D) else (shownF D s, 0, restD D)) else (0, 10, D)
section
variable {T : Nat → Prop} {d P4 : Nat} {D : Dv} {w V : World}
theorem fill_out {R : List Atom} (HV : Hv w T (blkA P4 34 (markC 0).toArray :: R) V) (z : Int) :
    Hv w T (blkA P4 34 (markC z).toArray :: R) (V.setCells P4 0 (markC z)) ∧ (storeCells ⟨P4, 0, none⟩ (markC z)).run Try.prog V = .ok () (V.setCells P4 0 (markC z)) ∧
    (loadVar 34 ⟨P4, 0, none⟩).run Try.prog (V.setCells P4 0 (markC z)) = .ok (.agg (markC z).toArray) (V.setCells P4 0 (markC z)) := by
  have h := HV.sets (markC z) 0
  rw [setMany_all (by simp [markC_length])] at h
  exact ⟨h, cells_block (blk_there (HV.blk (i := 0) rfl) (n := 64) (by simp [markC_length])), loadVar_block (blk_range (h.blk (i := 0) rfl))⟩
set_option maxRecDepth 100000 in
set_option maxHeartbeats 3200000 in
theorem read_any (s : Int) (hlen : Hid (D.opn.length ≤ 100000)) (h : Hid (Sep [devA d D] w T)) :
    Calls Try.prog 22 #[.pointer (some ⟨d, 0, none⟩), .int .i64 s] w fun e w' => e = .returned (.tuple #[.agg (markC (readF D s).1).toArray, .int .i64 (readF D s).2.1]) ∧ Hv w T [devA d (readF D s).2.2] w' := by
  have hz := zero34
  have hml := markC_length
  go_enter Try.func22, Try.ntmps22
  go_wp2_with fail
  obtain ⟨P4, hP4⟩ : ∃ y, y = w.heap.size := ⟨_, rfl⟩
  generalize hA' : w.alloc (.cells (markC 0).toArray 34) = V
  have hv : Hv w T [blkA P4 34 (markC 0).toArray, devA d D] V := by
    have h1 := (Hv.start h.out).alloc 34 (markC 0).toArray
    rw [hA', ← hP4] at h1
    exact h1
  have HV := Lib.hid hv
  rw [← hP4]
  clear hA' hP4 h hv
  obtain ⟨T1, hT1, hJ1⟩ := Hv.use [devA d D] _ (HV.out.pick [1, 0])
  have HT1 := Lib.hid hT1
  clear hT1 hJ1
  by_cases hth : there D s = true
  · have HTH := Lib.hid hth
    refine (check_yes HT1 HTH).mono ?_
    rintro e w2 ⟨rfl, rfl⟩
    go_wp2_with fail
    obtain ⟨T2, hT2, hJ2⟩ := (show Hv w T [devA d D, blkA P4 34 (markC 0).toArray] V from HV.out.pick [1, 0]).all
    have HT2 := Lib.hid hT2
    have HJ2 := Lib.hid hJ2
    clear hT2 hJ2
    by_cases h1 : fateD D = 1
    · have HF : Hid (readF D s = (0, 19, restD D)) := by show _ = _; unfold readF; rw [if_pos hth, if_pos h1]
      refine (call_fail (Lib.hid h1) HT2).mono ?_
      rintro e w2 ⟨rfl, hw2⟩
      have hv3 := (HJ2.out _ _ hw2).pick [1, 0]
      obtain ⟨hv4, hst, hl2⟩ := fill_out hv3 0
      have HV4 := Lib.hid hv4
      clear hw2 hv3 hv4 hth h1
      go_wp2_with fail
      refine bodyPost_ret (v := .tuple #[.agg (markC 0).toArray, .int .i64 19]) ?_ rfl ⟨by rw [HF.out], by rw [HF.out]; exact HV4.out.pick [1]⟩
      rw [results_cell_tmp rfl]
      simp [asAddr, Result.andThen, hl2]
    · have HF : Hid (readF D s = (shownF D s, 0, restD D)) := by show _ = _; unfold readF; rw [if_pos hth, if_neg h1]
      refine (call_shows (Lib.hid h1) HT2).mono ?_
      rintro e w2 ⟨rfl, hw2⟩
      have hv3 := HJ2.out _ _ hw2
      obtain ⟨T3, hT3, hJ3⟩ := Hv.use [devA d (restD D)] _ hv3
      have HT3 := Lib.hid hT3
      have HJ3 := Lib.hid hJ3
      clear hw2 hv3 hT3 hJ3 hth h1
      go_wp2_with fail
      refine (shown_any (D := restD D) s HTH hlen HT3).mono ?_
      rintro e w3 ⟨rfl, hw3⟩
      have HS : Hid (shownF (restD D) s = shownF D s) := rfl
      rw [HS.out]
      obtain ⟨zz, hzz⟩ : ∃ y, y = shownF D s := ⟨_, rfl⟩
      rw [← hzz] at HF ⊢
      have hv4 := (HJ3.out _ _ hw3).pick [1, 0]
      obtain ⟨hv5, hst, hl2⟩ := fill_out hv4 zz
      have HV5 := Lib.hid hv5
      clear hw3 hv4 hv5 hzz
      go_wp2_with fail
      refine bodyPost_ret (v := .tuple #[.agg (markC zz).toArray, .int .i64 0]) ?_ rfl ⟨by rw [HF.out], by rw [HF.out]; exact HV5.out.pick [1]⟩
      rw [results_cell_tmp rfl]
      simp [asAddr, Result.andThen, hl2]
  · have HF : Hid (readF D s = (0, 10, D)) := by show _ = _; unfold readF; rw [if_neg hth]
    refine (check_no HT1 (Lib.hid hth)).mono ?_
    rintro e w2 ⟨rfl, rfl⟩
    obtain ⟨hv4, hst, hl2⟩ := fill_out HV.out 0
    have HV4 := Lib.hid hv4
    clear hv4 hth
    go_wp2_with fail
    refine bodyPost_ret (v := .tuple #[.agg (markC 0).toArray, .int .i64 10]) ?_ rfl ⟨by rw [HF.out], by rw [HF.out]; exact HV4.out.pick [1]⟩
    rw [results_cell_tmp rfl]
    simp [asAddr, Result.andThen, hl2]
end
end Go.Proofs.Ytbfmgdkiigkioaa

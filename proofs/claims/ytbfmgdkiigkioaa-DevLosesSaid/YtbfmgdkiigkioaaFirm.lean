/- The walk of Firm. -/
import Derived.Test.YtbfmgdkiigkioaaDv
namespace Go.Proofs.Ytbfmgdkiigkioaa
open Go.RowKit Go.LawEnd

def firmAt (D : Dv) (s : Int) : Int := if there D s = true then D.firm[s.toNat]?.getD 0 else 0
theorem zero34 (w : World) : (zeroValue 34).run Try.prog w = .ok (.agg (markC 0).toArray) w := by
  rw [markC_eq]; exact Try.zeroValue34 w
theorem build_zero (w : World) : (Instr.build 34 #[]).run Try.prog w = .ok (.agg (markC 0).toArray) w := by
  refine run_build w 34 #[] _ ?_
  rw [markC_eq]
  kernel_rfl
theorem bls_length (l : List Int) : (bls l).length = l.length * 64 := by
  unfold bls
  induction l with
  | nil => rfl
  | cons a l ih => rw [List.flatMap_cons, List.length_append, markC_length, ih, List.length_cons]; omega
theorem wrs_length (l : List Wr) : (wrs l).length = l.length * 65 := by
  unfold wrs
  induction l with
  | nil => rfl
  | cons a l ih => rw [List.flatMap_cons, List.length_append, wrC_length, ih, List.length_cons]; omega
theorem step_load_block {ops : Array Oper} {rest : List Oper} {op : Oper} {a : Act} {w : World} {Q : Exit → Act → World → Prop} {b o : Nat} {z : Int} (hr : w.rangeAt b o (markC z)) (hgd : op.guard = none) (x : Operand) (ho : op.op = .load 34 x)
    (hx : a.eval x = .pointer (some ⟨b, o, none⟩)) (h : wpList Try.prog ops Q rest (a.put op.dst (.agg (markC z).toArray)) w) : wpList Try.prog ops Q (op :: rest) a w :=
  wpList_load_mid hgd 34 x ho b o hx (markC z) _ hr Try.underlying34 rfl (by rw [size34, markC_length]) h
/-- a firm sector lies where the slice says -/
theorem firm_range {w0 w : World} {S : Nat → Prop} {L : List Atom} {i : Nat} {A : Option Addr} {c n : Nat} {l : List Int} (h : Hv w0 S L w) (hi : L[i]? = some (rowA (.slice A n c) 34 64 l.length (bls l))) (k : Nat) (hk : k < l.length) :
    ∃ g, A = some ⟨g, 0, none⟩ ∧ g < w.heap.size ∧ w.rangeAt g (k * 64) (markC l[k]) ∧ w.there g (k * 64) 64 := by
  have hr := h.row hi
  rcases hr.2 with ⟨_, h0⟩ | ⟨g, cap, cur, e, _, hh, _⟩
  · omega
  · cases e
    have hget := fun j (hj : j < 64) => flat_get markC 64 markC_length l k hk j hj
    have hb : ∀ j, j < 64 → k * 64 + j < (bls l).length := fun j hj => by
      rw [bls_length]
      have : (k + 1) * 64 ≤ l.length * 64 := Nat.mul_le_mul_right _ hk
      omega
    refine ⟨g, rfl, lt_of_obj hh, fun j v hv => ?_, fun j hj => ⟨?_, hr.frozenAt _⟩⟩
    · have hj : j < 64 := by have := (List.getElem?_eq_some_iff.1 hv).1; rw [markC_length] at this; exact this
      have := hb j hj
      rw [hr.cellAt _ (by have := hr.1; omega)]
      exact (hget j hj).trans hv
    · have := hb j hj
      rw [hr.cellAt _ (by have := hr.1; omega), List.getElem?_eq_getElem this]; rfl
section
variable {T : Nat → Prop} {d : Nat} {D : Dv} {w : World}
theorem check_yes {s : Int} (h : Hid (Sep [devA d D] w T)) (hth : Hid (there D s = true)) : Calls Try.prog 29 #[.pointer (some ⟨d, 0, none⟩), .int .i64 s] w fun e w' => e = .returned (.int .i64 0) ∧ w = w' := by
  have := check_any s h
  rw [if_pos hth.out] at this
  exact this
theorem check_no {s : Int} (h : Hid (Sep [devA d D] w T)) (hth : Hid (¬ there D s = true)) : Calls Try.prog 29 #[.pointer (some ⟨d, 0, none⟩), .int .i64 s] w fun e w' => e = .returned (.int .i64 10) ∧ w = w' := by
  have := check_any s h
  rw [if_neg hth.out] at this
  exact this
theorem there_lt {s : Int} (h : there D s = true) : 0 ≤ s ∧ s < (D.firm.length : Int) := by
  unfold there at h
  rw [Bool.and_eq_true, decide_eq_true_eq, decide_eq_true_eq] at h
  exact h
theorem begin_block (w : World) (P4 : Nat) (hP4 : P4 = w.heap.size) (V : World) (hA : w.alloc (.cells (markC 0).toArray 34) = V) (hs : Sep [devA d D] w T) :
    Hv w No [blkA P4 34 (markC 0).toArray] V ∧ Sep [devA d D] V T := by
  have h := (Hv.begin w).alloc 34 (markC 0).toArray
  rw [hA] at h
  rw [hP4]
  exact ⟨h, hs.keep fun b hb => h.below.block b (hs.lt hb)⟩
theorem filled {w V : World} {P4 : Nat} (HV : Hid (Hv w No [blkA P4 34 (markC 0).toArray] V)) (z : Int) :
    Hid (Hv w No [blkA P4 34 (markC z).toArray] (V.setCells P4 0 (markC z))) ∧ (storeCells ⟨P4, 0, none⟩ (markC z)).run Try.prog V = .ok () (V.setCells P4 0 (markC z)) ∧
    (loadVar 34 ⟨P4, 0, none⟩).run Try.prog (V.setCells P4 0 (markC z)) = .ok (.agg (markC z).toArray) (V.setCells P4 0 (markC z)) := by
  have h := HV.out.sets (markC z) 0
  rw [setMany_all (by simp [markC_length])] at h
  exact ⟨h, cells_block (blk_there (HV.out.blk (i := 0) rfl) (n := 64) (by simp [markC_length])), loadVar_block (blk_range (h.blk (i := 0) rfl))⟩
set_option maxRecDepth 100000 in
set_option maxHeartbeats 3200000 in
theorem firm_yes (s : Int) (hth : Hid (there D s = true)) (h : Hid (Sep [devA d D] w T)) :
    Calls Try.prog 18 #[.pointer (some ⟨d, 0, none⟩), .int .i64 s] w fun e w' => e = .returned (.tuple #[.agg (markC (firmAt D s)).toArray, .int .i64 0]) ∧ Below w.heap.size w w' := by
  have hz := zero34
  have hml := markC_length
  go_enter Try.func18, Try.ntmps18
  go_wp2_with fail
  obtain ⟨P4, hP4⟩ : ∃ y, y = w.heap.size := ⟨_, rfl⟩
  generalize hA' : w.alloc (.cells (markC 0).toArray 34) = V
  obtain ⟨hv, hs⟩ := begin_block w P4 hP4 V hA' h.out
  have HV := Lib.hid hv
  have HS := Lib.hid hs
  rw [← hP4]
  clear hA' hP4 h hv hs
  refine (check_yes HS hth).mono ?_
  rintro e w' ⟨rfl, rfl⟩
  obtain ⟨h0, h1⟩ := there_lt hth.out
  obtain ⟨AF, cF, AO, cO, AP, cP, k0, k1, k2, hv, _⟩ := dev_cells (Hv.start HS.out)
  obtain ⟨g, rfl, hg, hr, _⟩ := firm_range hv (i := 1) rfl s.toNat (by omega)
  obtain ⟨z, hz2⟩ : ∃ z, z = D.firm[s.toNat] := ⟨_, rfl⟩
  rw [← hz2] at hr
  have HZ : Hid (firmAt D s = z) := by show _ = _; unfold firmAt; rw [if_pos hth.out, hz2, List.getElem?_eq_getElem (by omega)]; rfl
  obtain ⟨HV2, hst, hl2⟩ := filled HV z
  have HL : Hid (s.toNat < D.firm.length) := by show _ < _; omega
  have d1 : decide (s < 0) = false := decide_eq_false (by omega)
  have d2 : decide (s < (D.firm.length : Int)) = true := decide_eq_true (by omega)
  have d3 : decide (0 ≤ s) = true := decide_eq_true (by omega)
  clear hv hz2
  go_wp2_with (refine step_load_block hr rfl _ rfl rfl ?_)
  refine bodyPost_ret (v := .tuple #[.agg (markC z).toArray, .int .i64 0]) ?_ rfl ⟨by rw [HZ.out], HV2.out.below⟩
  rw [results_cell_tmp rfl]
  simp [asAddr, Result.andThen, hl2]
set_option maxRecDepth 100000 in
set_option maxHeartbeats 3200000 in
theorem firm_no (s : Int) (hth : Hid (¬ there D s = true)) (h : Hid (Sep [devA d D] w T)) :
    Calls Try.prog 18 #[.pointer (some ⟨d, 0, none⟩), .int .i64 s] w fun e w' => e = .returned (.tuple #[.agg (markC (firmAt D s)).toArray, .int .i64 10]) ∧ Below w.heap.size w w' := by
  have hz := zero34
  have hml := markC_length
  go_enter Try.func18, Try.ntmps18
  go_wp2_with fail
  obtain ⟨P4, hP4⟩ : ∃ y, y = w.heap.size := ⟨_, rfl⟩
  generalize hA' : w.alloc (.cells (markC 0).toArray 34) = V
  obtain ⟨hv, hs⟩ := begin_block w P4 hP4 V hA' h.out
  have HV := Lib.hid hv
  have HS := Lib.hid hs
  rw [← hP4]
  clear hA' hP4 h hv hs
  refine (check_no HS hth).mono ?_
  rintro e w' ⟨rfl, rfl⟩
  have HZ : Hid (firmAt D s = 0) := by show _ = _; unfold firmAt; rw [if_neg hth.out]
  obtain ⟨HV2, hst, hl2⟩ := filled HV 0
  go_wp2_with fail
  refine bodyPost_ret (v := .tuple #[.agg (markC 0).toArray, .int .i64 10]) ?_ rfl ⟨by rw [HZ.out], HV2.out.below⟩
  rw [results_cell_tmp rfl]
  simp [asAddr, Result.andThen, hl2]
theorem firm_any (s : Int) (h : Hid (Sep [devA d D] w T)) :
    Calls Try.prog 18 #[.pointer (some ⟨d, 0, none⟩), .int .i64 s] w fun e w' => e = .returned (.tuple #[.agg (markC (firmAt D s)).toArray, .int .i64 (if there D s = true then 0 else 10)]) ∧ Below w.heap.size w w' := by
  by_cases hth : there D s = true
  · rw [if_pos hth]; exact firm_yes s hth h
  · rw [if_neg hth]; exact firm_no s hth h
end
end Go.Proofs.Ytbfmgdkiigkioaa

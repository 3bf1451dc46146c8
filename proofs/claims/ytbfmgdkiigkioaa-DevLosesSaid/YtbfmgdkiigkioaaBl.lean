/- Sectors of one byte as values. -/
import Derived.Test.YtbfmgdkiigkioaaChecked
import Derived.Test.YtbfmgdkiigkioaaSep
import Derived.Test.YtbfmgdkiigkioaaApp
import Derived.Test.YtbfmgdkiigkioaaQb
import Derived.WalkKit
import Derived.WalkSpells
import Derived.WalkLawsBesides
import Derived.Lib.Hide
import Derived.Deep.DeepCutAuto
import Derived.Deep.QuietTactic
import Derived.BigQuiet
import Derived.Laws.ResultCell
import Derived.Deep.RegionHeld3
import Derived.Deep.MidRow
import Derived.IntWalk
import Derived.Stop.BytesEq
import Derived.Test.YtbfmgdkiigkioaaMid
namespace Go.Proofs.Ytbfmgdkiigkioaa
open Go.RowKit Go.LawEnd

theorem mark_ex : ∃ m : Int → List Value, ∀ k, m k = .int .u8 k :: List.replicate 63 (.int .u8 0) := ⟨_, fun _ => rfl⟩
/-- the cells of a sector of one byte -/
noncomputable def markC : Int → List Value := Classical.choose mark_ex
theorem markC_eq (k : Int) : markC k = .int .u8 k :: List.replicate 63 (.int .u8 0) := Classical.choose_spec mark_ex k
theorem markC_length (k : Int) : (markC k).length = 64 := by rw [markC_eq]; simp
theorem markC_inj {i j : Int} (h : markC i = markC j) : i = j := by
  rw [markC_eq, markC_eq] at h
  injection h with h _
  injection h with _ h
theorem markC_cell (k : Int) : ∀ v ∈ markC k, v.oneCell' = true := by
  intro v hv
  rw [markC_eq] at hv
  rcases List.mem_cons.1 hv with rfl | h
  · rfl
  · rw [(List.mem_replicate.1 h).2]; rfl
theorem results_cell_one {fn : Func} {p : Tmp} {ty : TypeId} (h : fn.results = #[.cell p ty]) (tmps : Array Value) (P : Program) (w : World) :
    (results fn tmps).run P w = ((asAddr (tmps.getD p undef)).run P w).andThen fun a w₁ => (loadVar ty a).run P w₁ := by
  simp only [results, h]
  simp [Sem.run_bind]
theorem size34 : (Try.prog.info? 34).map (·.size) = some 64 := by kernel_rfl
theorem load_block {w : World} {b o : Nat} {k : Int} (h : w.rangeAt b o (markC k)) : (Instr.loadAt 34 (.pointer (some ⟨b, o, none⟩))).run Try.prog w = .ok (.agg (markC k).toArray) w :=
  run_loadAt_mid w b o _ _ _ h Try.underlying34 rfl (by rw [size34, markC_length])
theorem loadVar_block {w : World} {b o : Nat} {k : Int} (h : w.rangeAt b o (markC k)) : (loadVar 34 ⟨b, o, none⟩).run Try.prog w = .ok (.agg (markC k).toArray) w :=
  run_loadVar_mid w b o _ _ _ h Try.underlying34 rfl (by rw [size34, markC_length])
theorem store_block {w : World} {b o : Nat} {k : Int} (h : w.there b o 64) : (Instr.storeAt 34 (.pointer (some ⟨b, o, none⟩)) (.agg (markC k).toArray)).run Try.prog w = .ok () (w.setCells b o (markC k)) := by
  have := run_storeAt_mid (P := Try.prog) w b o 34 (markC k).toArray (by simpa [markC_length] using h) (by rw [size34]; simp [markC_length]) (all_oneCell_toArray (markC_cell k))
  simpa using this

attribute [local go_sem] markC_length
theorem cells_block {w : World} {b o : Nat} {k : Int} (h : w.there b o 64) : (storeCells ⟨b, o, none⟩ (markC k)).run Try.prog w = .ok () (w.setCells b o (markC k)) := by
  have h1 : (markC k).length = 64 := markC_length k
  have := run_storeCells_cells (P := Try.prog) b o (markC k) 0 w (fun j hj => by simpa using (h j (by omega)).1) (fun j hj => by simpa using (h j (by omega)).2) (markC_cell k)
  simpa using this
theorem eql_block {i j : Int} (hi : 0 ≤ i ∧ i < 256) (hj : 0 ≤ j ∧ j < 256) (w : World) : (binOp BinOp.eql 34 (.agg (markC i).toArray) (.agg (markC j).toArray)).run Try.prog w = .ok (.bool (decide (i = j))) w := by
  have hm : ∀ {k : Int}, 0 ≤ k ∧ k < 256 → markC k = ((k.toNat.toUInt8 :: List.replicate 63 (0 : UInt8)).map Extern.Stop.cell) := fun {k} hk => by
    rw [markC_eq, List.map_cons, List.map_replicate]
    have e : Extern.Stop.cell k.toNat.toUInt8 = .int .u8 k := by
      unfold Extern.Stop.cell
      have : k.toNat.toUInt8.toNat = k.toNat := by simp; omega
      rw [this]
      exact congrArg (Value.int .u8) (Int.toNat_of_nonneg hk.1)
    rw [e]
    rfl
  have hb := run_eql_bytes (P := Try.prog) w 34 5 64 Try.underlying34 Try.underlying5 (fun w => Try.sizeOf5 w) (i.toNat.toUInt8 :: List.replicate 63 (0 : UInt8)) (j.toNat.toUInt8 :: List.replicate 63 (0 : UInt8)) (by simp) (by simp)
  rw [← hm hi, ← hm hj] at hb
  rw [hb]
  congr 2
  rw [Bool.eq_iff_iff, beq_iff_eq, decide_eq_true_eq]
  constructor
  · intro h
    injection h with h _
    have := congrArg UInt8.toNat h
    simp at this
    omega
  · rintro rfl; rfl
theorem mark_tmod (n : Int) : n.tmod 256 % 256 = n % 256 := by
  have := Int.tmod_add_mul_tdiv n 256
  omega
set_option maxRecDepth 100000 in
set_option maxHeartbeats 3200000 in
theorem mark_any (n : Int) (w : World) :
    Calls Try.prog 14 #[.int .i64 n] w fun e w' => e = .returned (.agg (markC (n % 256)).toArray) ∧ Below w.heap.size w w' := by
  go_enter Try.func14, Try.ntmps14
  go_wp2_with fail
  rw [mark_tmod]
  obtain ⟨z, hz⟩ : ∃ z, z = n % 256 := ⟨_, rfl⟩
  rw [← hz]
  have HZ := Lib.hid hz
  clear hz
  generalize hA : (w.alloc (Obj.cells _ _)).alloc (Obj.cells _ _) = W
  have hA' : (w.alloc (.cells (markC 0).toArray 34)).alloc (.cells (markC z).toArray 34) = W := by
    rw [markC_eq, markC_eq]; exact hA
  clear hA
  have hv : Hv w No [blkA w.heap.size 34 (markC 0).toArray, blkA (w.heap.size + 1) 34 (markC z).toArray] W := by
    have h := ((Hv.begin w).alloc 34 (markC 0).toArray).alloc 34 (markC z).toArray
    rw [World.size_alloc, hA'] at h
    exact h.pick [1, 0]
  clear hA'
  have ht := blk_there (hv.blk (i := 0) rfl) (n := 64) (by simp [markC_length])
  have hr := blk_range (hv.blk (i := 1) rfl)
  have hv2 := hv.sets (markC z) 0
  rw [setMany_all (by simp [markC_length])] at hv2
  have hl2 := loadVar_block (blk_range (hv2.blk (i := 0) rfl))
  have HB := Lib.hid hv2.below
  have hst := cells_block (k := z) ht
  clear hv hv2
  refine wp_load_mid 34 (.tmp 3) rfl (w.heap.size + 1) 0 rfl (markC z) _ hr Try.underlying34 rfl (by rw [size34, markC_length]) ?_
  go_wp2_with fail
  refine bodyPost_ret (v := .agg (markC z).toArray) ?_ rfl ⟨by rw [HZ.out], HB.out⟩
  rw [results_cell_one rfl]
  simp [asAddr, Result.andThen, hl2]
end Go.Proofs.Ytbfmgdkiigkioaa

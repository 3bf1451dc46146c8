/- The walk of does: Write and Flush. -/
import Derived.Test.YtbfmgdkiigkioaaRefFlush
import Derived.Test.YtbfmgdkiigkioaaAwake
namespace Go.Proofs.Ytbfmgdkiigkioaa
open Go.RowKit Go.LawEnd

section
variable {T : Nat → Prop} {d r : Nat} {D R : Dv} {w : World}
set_option maxRecDepth 100000 in
set_option maxHeartbeats 6400000 in
theorem does_write (s n z : Int) (HZ : Hid (z = n % 256)) (lD : Hid (D.opn.length ≤ 100000)) (lR : Hid (R.opn.length ≤ 100000)) (h : Hid (Sep [devA d D, refA r R] w T)) :
    Calls Try.prog 20 #[.pointer (some ⟨d, 0, none⟩), .pointer (some ⟨r, 0, none⟩), .agg #[.int .i64 0, .int .i64 s, .int .i64 n]] w fun e w' =>
      e = .returned (.bool (decide ((writeF D s z).1 = (writeF R s z).1))) ∧ Hv w T [devA d (writeF D s z).2, refA r (writeF R s z).2] w' := by
  go_enter Try.func20, Try.ntmps20
  go_wp2_with fail
  obtain ⟨P5, hP5⟩ : ∃ y, y = w.heap.size := ⟨_, rfl⟩
  obtain ⟨V, hV⟩ : ∃ y, y = w.alloc (.cells #[.int .i64 0, .int .i64 s, .int .i64 n] 31) := ⟨_, rfl⟩
  have hv := (Hv.start h.out).alloc 31 #[.int .i64 0, .int .i64 s, .int .i64 n]
  rw [← hV, ← hP5] at hv
  rw [← hV, ← hP5]
  have HX : Hid (Hv w T [devA d D, refA r R, blkA P5 31 #[.int .i64 0, .int .i64 s, .int .i64 n]] V.drew) := hv.drew.pick [1, 2, 0]
  have k1 : V.cell? ⟨P5, 1, none⟩ = some (.int .i64 s) := by simpa using (hv.blk (i := 0) rfl).cell 1
  have k2 : V.cell? ⟨P5, 2, none⟩ = some (.int .i64 n) := by simpa using (hv.blk (i := 0) rfl).cell 2
  clear hV hP5 hv h
  have HKP : Hid (∀ (D R : Dv) (W : World), Hv w T [devA d D, refA r R, blkA P5 31 #[.int .i64 0, .int .i64 s, .int .i64 n]] W → W.cell? ⟨P5, 1, none⟩ = some (.int .i64 s) ∧ W.cell? ⟨P5, 2, none⟩ = some (.int .i64 n)) := fun D R W hv =>
    ⟨by simpa using (hv.blk (i := 2) rfl).cell 1, by simpa using (hv.blk (i := 2) rfl).cell 2⟩
  refine wp_region_noPanic ?_
  refine wp_region_held_drew (S := (fun W => W.cell? ⟨P5, 1, none⟩ = some (.int .i64 s) ∧ W.cell? ⟨P5, 2, none⟩ = some (.int .i64 n))) (by kernel_rfl) ⟨k1, k2⟩ (fun hHeld => ?_)
  refine wpAnyH_take (i := 0) (v := ?v0) rfl (by kernel_rfl) (by kernel_rfl) (by kernel_rfl) (fun _ _ _ h => h) (Or.inl ⟨by rfl, ?hy0⟩) (by assumption) ?rest0
  case hy0 =>
    intro w hSw
    (try dsimp only at hSw)
    go_simp
    try with_reducible rfl
  try simp only [Act.put, List.getElem_toArray, List.getElem_cons_zero, List.setIfInBounds_toArray, List.set_cons_zero, List.set_cons_succ]
  refine wpAnyH_take (i := 1) (v := ?v1) rfl (by kernel_rfl) (by kernel_rfl) (by kernel_rfl) (fun _ _ _ h => h) (Or.inl ⟨by rfl, ?hy1⟩) (by assumption) ?rest1
  case hy1 =>
    intro w hSw
    (try dsimp only at hSw)
    go_simp
    try with_reducible rfl
  try simp only [Act.put, List.getElem_toArray, List.getElem_cons_zero, List.getElem_cons_succ, List.setIfInBounds_toArray, List.set_cons_zero, List.set_cons_succ]
  refine wpAnyH_take (i := 2) (v := ?v2) rfl (by kernel_rfl) (by kernel_rfl) (by kernel_rfl) (fun _ _ _ h => h) (Or.inl ⟨by rfl, ?hy2⟩) (by assumption) ?rest2
  case hy2 =>
    intro w hSw
    (try dsimp only at hSw)
    go_simp
    try with_reducible rfl
  try simp only [Act.put, List.getElem_toArray, List.getElem_cons_zero, List.getElem_cons_succ, List.setIfInBounds_toArray, List.set_cons_zero, List.set_cons_succ]
  refine wpAnyH_take (i := 3) (v := ?v3) rfl (by kernel_rfl) (by kernel_rfl) (by kernel_rfl) (fun _ _ _ h => h) (Or.inl ⟨by rfl, ?hy3⟩) (by assumption) ?rest3
  case hy3 =>
    intro w hSw
    (try dsimp only at hSw)
    go_simp
    try with_reducible rfl
  try simp only [Act.put, List.getElem_toArray, List.getElem_cons_zero, List.getElem_cons_succ, List.setIfInBounds_toArray, List.set_cons_zero, List.set_cons_succ]
  refine wpAnyH_take (i := 4) (v := ?v4) rfl (by kernel_rfl) (by kernel_rfl) (by kernel_rfl) (fun _ _ _ h => h) (Or.inl ⟨by rfl, ?hy4⟩) (by assumption) ?rest4
  case hy4 =>
    intro w hSw
    (try dsimp only at hSw)
    go_simp
    try with_reducible rfl
  try simp only [Act.put, List.getElem_toArray, List.getElem_cons_zero, List.getElem_cons_succ, List.setIfInBounds_toArray, List.set_cons_zero, List.set_cons_succ]
  refine wpAnyH_take (i := 7) (v := ?v7) rfl (by kernel_rfl) (by kernel_rfl) (by kernel_rfl) (fun _ _ _ h => h) (Or.inl ⟨by rfl, ?hy7⟩) (by assumption) ?rest7
  case hy7 =>
    intro w hSw
    (try dsimp only at hSw)
    go_simp
    try with_reducible rfl
  try simp only [Act.put, List.getElem_toArray, List.getElem_cons_zero, List.getElem_cons_succ, List.setIfInBounds_toArray, List.set_cons_zero, List.set_cons_succ]
  refine wpAnyH_take (i := 8) (v := ?v8) rfl (by kernel_rfl) (by kernel_rfl) (by kernel_rfl) (fun _ _ _ h => h) (Or.inl ⟨by rfl, ?hy8⟩) (by assumption) ?rest8
  case hy8 =>
    intro w hSw
    (try dsimp only at hSw)
    go_simp
    try with_reducible rfl
  try simp only [Act.put, List.getElem_toArray, List.getElem_cons_zero, List.getElem_cons_succ, List.setIfInBounds_toArray, List.set_cons_zero, List.set_cons_succ]
  refine wpAnyH_take (i := 9) (v := ?v9) rfl (by kernel_rfl) (by kernel_rfl) (by kernel_rfl) (fun _ _ _ h => h) (Or.inl ⟨by rfl, ?hy9⟩) (by assumption) ?rest9
  case hy9 =>
    intro w hSw
    (try dsimp only at hSw)
    go_simp
    try with_reducible rfl
  try simp only [Act.put, List.getElem_toArray, List.getElem_cons_zero, List.getElem_cons_succ, List.setIfInBounds_toArray, List.set_cons_zero, List.set_cons_succ]
  refine wpAnyH_take (i := 10) (v := ?v10) rfl (by kernel_rfl) (by kernel_rfl) (by kernel_rfl) (fun _ _ _ h => h) (Or.inl ⟨by rfl, ?hy10⟩) (by assumption) ?rest10
  case hy10 =>
    intro w hSw
    (try dsimp only at hSw)
    go_simp
    try with_reducible rfl
  try simp only [Act.put, List.getElem_toArray, List.getElem_cons_zero, List.getElem_cons_succ, List.setIfInBounds_toArray, List.set_cons_zero, List.set_cons_succ]
  refine wpAnyH_take (i := 11) (v := ?v11) rfl (by kernel_rfl) (by kernel_rfl) (by kernel_rfl) (fun _ _ _ h => h) (Or.inl ⟨by rfl, ?hy11⟩) (by assumption) ?rest11
  case hy11 =>
    intro w hSw
    (try dsimp only at hSw)
    go_simp
    try with_reducible rfl
  try simp only [Act.put, List.getElem_toArray, List.getElem_cons_zero, List.getElem_cons_succ, List.setIfInBounds_toArray, List.set_cons_zero, List.set_cons_succ]
  refine wpAnyH_ready (rs := [5]) (by kernel_rfl) (by simp) ?_
  refine AllReadyH.cons rfl (fun K hK => ?_) AllReadyH.nil
  go_simp
  refine (mark_any n _).mono ?_
  rintro e W1 ⟨rfl, hb⟩
  have HX1 := Lib.hid (HX.out.still hb)
  clear hb HX k1 k2
  rw [← HZ.out]
  refine hK.out _ _ (HKP.out _ _ _ HX1.out) (fun hHeld1 => ?_)
  clear hK K
  try simp only [Act.put, List.getElem_toArray, List.getElem_cons_zero, List.getElem_cons_succ, List.setIfInBounds_toArray, List.set_cons_zero, List.set_cons_succ]
  refine wpAnyH_ready (rs := [6]) (by kernel_rfl) (by simp) ?_
  refine AllReadyH.cons rfl (fun K hK => ?_) AllReadyH.nil
  go_simp
  obtain ⟨T1, hT1, hJ1⟩ := Hv.use [devA d D] _ HX1.out
  refine (write_any s z lD (Lib.hid hT1)).mono ?_
  rintro e W2 ⟨rfl, h2⟩
  have HX2 : Hid (Hv w T [devA d (writeF D s z).2, refA r R, blkA P5 31 #[.int .i64 0, .int .i64 s, .int .i64 n]] W2) := hJ1 _ _ h2
  clear h2 hT1 hJ1 HX1
  refine hK.out _ _ (HKP.out _ _ _ HX2.out) (fun hHeld2 => ?_)
  clear hK K
  try simp only [Act.put, List.getElem_toArray, List.getElem_cons_zero, List.getElem_cons_succ, List.setIfInBounds_toArray, List.set_cons_zero, List.set_cons_succ]
  refine wpAnyH_ready (rs := [12]) (by kernel_rfl) (by simp) ?_
  refine AllReadyH.cons rfl (fun K hK => ?_) AllReadyH.nil
  go_simp
  refine (mark_any n _).mono ?_
  rintro e W3 ⟨rfl, hb⟩
  have HX3 := Lib.hid (HX2.out.still hb)
  clear hb HX2
  rw [← HZ.out]
  refine hK.out _ _ (HKP.out _ _ _ HX3.out) (fun hHeld3 => ?_)
  clear hK K
  try simp only [Act.put, List.getElem_toArray, List.getElem_cons_zero, List.getElem_cons_succ, List.setIfInBounds_toArray, List.set_cons_zero, List.set_cons_succ]
  refine wpAnyH_ready (rs := [13]) (by kernel_rfl) (by simp) ?_
  refine AllReadyH.cons rfl (fun K hK => ?_) AllReadyH.nil
  go_simp
  obtain ⟨T1, hT1, hJ1⟩ := Hv.use [refA r R] _ (HX3.out.pick [1, 0, 2])
  refine (rwrite_any s z lR (Lib.hid hT1)).mono ?_
  rintro e W4 ⟨rfl, h4⟩
  have HX4 : Hid (Hv w T [devA d (writeF D s z).2, refA r (writeF R s z).2, blkA P5 31 #[.int .i64 0, .int .i64 s, .int .i64 n]] W4) := (hJ1 _ _ h4).pick [1, 0, 2]
  clear h4 hT1 hJ1 HX3
  refine hK.out _ _ (HKP.out _ _ _ HX4.out) (fun hHeld4 => ?_)
  clear hK K
  try simp only [Act.put, List.getElem_toArray, List.getElem_cons_zero, List.getElem_cons_succ, List.setIfInBounds_toArray, List.set_cons_zero, List.set_cons_succ]
  refine wpAnyH_take (i := 14) (v := ?v14) rfl (by kernel_rfl) (by kernel_rfl) (by kernel_rfl) (fun _ _ _ h => h) (Or.inl ⟨by rfl, ?hy14⟩) (by assumption) ?rest14
  case hy14 =>
    intro w hSw
    (try dsimp only at hSw)
    go_simp
    try with_reducible rfl
  try simp only [Act.put, List.getElem_toArray, List.getElem_cons_zero, List.getElem_cons_succ, List.setIfInBounds_toArray, List.set_cons_zero, List.set_cons_succ]
  refine wpAnyH_take (i := 15) (v := ?v15) rfl (by kernel_rfl) (by kernel_rfl) (by kernel_rfl) (fun _ _ _ h => h) (Or.inl ⟨by rfl, ?hy15⟩) (by assumption) ?rest15
  case hy15 =>
    intro w hSw
    (try dsimp only at hSw)
    go_simp
    try with_reducible rfl
  try simp only [Act.put, List.getElem_toArray, List.getElem_cons_zero, List.getElem_cons_succ, List.setIfInBounds_toArray, List.set_cons_zero, List.set_cons_succ]
  refine wpAnyH_done (by kernel_rfl) ?_ _
  refine NoPanic.normal ?_
  clear hHeld hHeld1 hHeld2 hHeld3 hHeld4 HKP
  go_wp2
  go_ret
  exact ⟨by (first | rfl | (congr 3)), HX4.out.pick [0, 1]⟩
set_option maxRecDepth 100000 in
set_option maxHeartbeats 6400000 in
theorem does_flush (s n : Int) (lD : Hid (D.opn.length ≤ 100000)) (lR : Hid (R.opn.length ≤ 100000)) (oD : Hid (OkD D)) (oR : Hid (OkD R)) (h : Hid (Sep [devA d D, refA r R] w T)) :
    Calls Try.prog 20 #[.pointer (some ⟨d, 0, none⟩), .pointer (some ⟨r, 0, none⟩), .agg #[.int .i64 2, .int .i64 s, .int .i64 n]] w fun e w' =>
      e = .returned (.bool (decide ((flushF D).1 = (flushF R).1))) ∧ Hv w T [devA d (flushF D).2, refA r (flushF R).2] w' := by
  go_enter Try.func20, Try.ntmps20
  go_wp2_with fail
  have HX : Hid (Hv w T [devA d D, refA r R] (w.alloc (.cells #[.int .i64 2, .int .i64 s, .int .i64 n] 31))) := (Hv.start h.out).alloc_ _
  obtain ⟨T1, hT1, hJ1⟩ := Hv.use [devA d D] _ HX.out
  refine (flush_any lD oD (Lib.hid hT1)).mono ?_
  rintro e W2 ⟨rfl, h2⟩
  have HX2 : Hid (Hv w T [devA d (flushF D).2, refA r R] W2) := hJ1 _ _ h2
  clear h2 hT1 hJ1 HX h
  go_wp2_with fail
  obtain ⟨T1, hT1, hJ1⟩ := Hv.use [refA r R] _ (HX2.out.pick [1, 0])
  refine (rflush_any lR oR (Lib.hid hT1)).mono ?_
  rintro e W4 ⟨rfl, h4⟩
  have HX4 : Hid (Hv w T [devA d (flushF D).2, refA r (flushF R).2] W4) := (hJ1 _ _ h4).pick [1, 0]
  clear h4 hT1 hJ1 HX2
  go_wp2
  go_ret
  exact ⟨by (first | rfl | (congr 3)), HX4.out⟩
end
end Go.Proofs.Ytbfmgdkiigkioaa

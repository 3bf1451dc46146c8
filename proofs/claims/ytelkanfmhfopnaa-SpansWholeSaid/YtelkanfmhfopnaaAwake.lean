/- The walk of awake: the chapter's example. -/
import Derived.Test.YtelkanfmhfopnaaRight
namespace Go.Proofs.Ytelkanfmhfopnaa
open Go.RowKit Go.LawEnd

def Yes (w : World) (e : Ending) (w' : World) : Prop := e = .returned (.bool true) ∧ Below w.heap.size w w'
theorem spArg_lit {w : World} {g : Nat} {l : List Sp} (h : Blk w g 26 (sps l).toArray) : SpArg w (some ⟨g, 0, none⟩) l := fun k hk => by
  have hg := sps_get l k hk
  refine ⟨g, 0, rfl, h.lt, ?_, ?_⟩
  · rw [Nat.zero_add, h.cell, List.getElem?_toArray]; exact hg.1
  · rw [Nat.zero_add, h.cell, List.getElem?_toArray]; exact hg.2
theorem ok_1 : OkS [((0 : Int), (3 : Int)), (5, 2)] := (newF_ok (l := [((0 : Int), (3 : Int)), (5, 2)]) (fun x hx => (mayB_iff x).1 (by
  simp only [List.mem_cons, List.not_mem_nil, or_false] at hx
  rcases hx with rfl | rfl <;> rfl))).1
theorem may_32 : May (3, 2) := (mayB_iff _).1 rfl
theorem may_11 : May (1, 1) := (mayB_iff _).1 rfl
theorem e_new : newF [((0 : Int), (3 : Int)), (5, 2)] = [(0, 3), (5, 2)] := by rfl
theorem e_add : addF [((0 : Int), (3 : Int)), (5, 2)] (3, 2) = [(0, 7)] := by rfl
theorem e_cut : cutF [((0 : Int), (7 : Int))] (1, 1) = [(0, 1), (2, 5)] := by rfl
theorem ok_2 : OkS [((0 : Int), (7 : Int))] := e_add ▸ (add_ok ok_1 may_32).1
theorem ok_3 : OkS [((0 : Int), (1 : Int)), (2, 5)] := e_cut ▸ (cut_ok ok_2 may_11).1

set_option maxRecDepth 100000 in
set_option maxHeartbeats 3200000 in
theorem awake_any (w : World) : Calls Try.prog 9 #[] w fun e w' => e = .returned (.bool true) ∧ Below w.heap.size w w' := by
  have HA : Hid (SpArg (w.alloc (.cells #[.int .i64 0, .int .i64 3, .int .i64 5, .int .i64 2] 26)) (some ⟨w.heap.size, 0, none⟩) [(0, 3), (5, 2)]) := spArg_lit (Blk.new w _ _)
  have HB0 : Hid (Below w.heap.size w (w.alloc (.cells #[.int .i64 0, .int .i64 3, .int .i64 5, .int .i64 2] 26))) := (Below.refl _ w).alloc (Nat.le_refl _) _
  go_enter Try.func9, Try.ntmps9
  go_wp2_with fail
  refine (new_may (some ⟨w.heap.size, 0, none⟩) 2 [(0, 3), (5, 2)] _ HA (by simp) (fun y hy => by
    simp only [List.mem_cons, List.not_mem_nil, or_false] at hy
    rcases hy with rfl | rfl <;> exact ⟨⟨by decide, by decide⟩, by decide, by decide⟩) (by decide)).mono ?_
  rintro e w1 ⟨s, rfl, h1⟩
  rw [e_new] at h1
  have HV1 : Hid (Hv w No [setA s [(0, 3), (5, 2)]] w1) := by
    have := ((Hv.begin w).still HB0.out).add h1
    exact this
  clear h1 HA HB0
  obtain ⟨T1, hT1, hJ1⟩ := HV1.out.all
  have HJ1 := Lib.hid hJ1
  have HT1 := Lib.hid hT1
  clear hT1 hJ1
  go_wp2_with fail
  refine (add_may s _ (3, 2) _ HT1 ok_1 rfl).mono ?_
  rintro e w2 ⟨rfl, h2⟩
  have HV2 : Hid (Hv w No [setA s [(0, 7)]] w2) := HJ1.out _ _ h2
  clear h2 HJ1 HT1 HV1
  obtain ⟨T2, hT2, hJ2⟩ := HV2.out.all
  have HT2 := Lib.hid hT2
  clear hT2 hJ2
  go_wp2_with fail
  refine (allOf_any s _ _ HT2 ok_2 (by simp)).mono ?_
  rintro e w3 ⟨v1, rfl, h3, _⟩
  have HV3 : Hid (Hv w No [setA s [(0, 7)], rsA v1 [(0, 7)]] w3) := (HV2.out.add h3).pick [1, 0]
  clear h3 HT2 HV2
  obtain ⟨T3, hT3, hJ3⟩ := Hv.use [setA s [(0, 7)]] _ HV3.out
  have HJ3 := Lib.hid hJ3
  have HT3 := Lib.hid hT3
  clear hT3 hJ3
  obtain ⟨A1, c1, rfl, _⟩ := SpArg.of_own (HV3.out.row (i := 1) rfl)
  go_wp2_with fail
  refine (cut_may s _ (1, 1) _ HT3 ok_2 rfl).mono ?_
  rintro e w4 ⟨rfl, h4⟩
  have HV4 : Hid (Hv w No [setA s [(0, 1), (2, 5)], rsA (.slice A1 1 c1) [(0, 7)]] w4) := HJ3.out _ _ h4
  clear h4 HJ3 HT3 HV3
  obtain ⟨T4, hT4, hJ4⟩ := Hv.use [setA s [(0, 1), (2, 5)]] _ HV4.out
  have HT4 := Lib.hid hT4
  clear hT4 hJ4
  go_wp2_with fail
  refine (allOf_any s _ _ HT4 ok_3 (by simp)).mono ?_
  rintro e w5 ⟨v2, rfl, h5, _⟩
  have HV5 : Hid (Hv w No [rsA (.slice A1 1 c1) [(0, 7)], rsA v2 [(0, 1), (2, 5)]] w5) := (HV4.out.add h5).pick [2, 0]
  clear h5 HT4 HV4
  obtain ⟨A2, c2, rfl, _⟩ := SpArg.of_own (HV5.out.row (i := 1) rfl)
  go_wp2_with fail
  have HA6 : Hid (SpArg (w5.alloc (.cells #[.int .i64 0, .int .i64 7] 26)) A1 [(0, 7)]) := by
    obtain ⟨A', c', e, h'⟩ := SpArg.of_own ((HV5.out.alloc_ (.cells #[.int .i64 0, .int .i64 7] 26)).row (i := 0) rfl)
    injection e with e1 _ _
    rw [e1]; exact h'
  have HL6 : Hid (SpArg (w5.alloc (.cells #[.int .i64 0, .int .i64 7] 26)) (some ⟨w5.heap.size, 0, none⟩) [(0, 7)]) := spArg_lit (Blk.new w5 _ _)
  refine (spans_any A1 (some ⟨w5.heap.size, 0, none⟩) c1 1 [(0, 7)] [(0, 7)] _ HA6 HL6 (by simp)).mono ?_
  rintro e w6 ⟨rfl, hb6⟩
  rw [show decide ([((0 : Int), (7 : Int))] = [(0, 7)]) = true from rfl]
  have HV6 := Lib.hid ((HV5.out.alloc_ (.cells #[.int .i64 0, .int .i64 7] 26)).still hb6)
  clear hb6 HV5 HA6 HL6
  go_wp2_with fail
  have HA7 : Hid (SpArg (w6.alloc (.cells #[.int .i64 0, .int .i64 1, .int .i64 2, .int .i64 5] 26)) A2 [(0, 1), (2, 5)]) := by
    obtain ⟨A', c', e, h'⟩ := SpArg.of_own ((HV6.out.alloc_ (.cells #[.int .i64 0, .int .i64 1, .int .i64 2, .int .i64 5] 26)).row (i := 1) rfl)
    injection e with e1 _ _
    rw [e1]; exact h'
  have HL7 : Hid (SpArg (w6.alloc (.cells #[.int .i64 0, .int .i64 1, .int .i64 2, .int .i64 5] 26)) (some ⟨w6.heap.size, 0, none⟩) [(0, 1), (2, 5)]) := spArg_lit (Blk.new w6 _ _)
  refine (spans_any A2 (some ⟨w6.heap.size, 0, none⟩) c2 2 [(0, 1), (2, 5)] [(0, 1), (2, 5)] _ HA7 HL7 (by simp)).mono ?_
  rintro e w7 ⟨rfl, hb7⟩
  rw [show decide ([((0 : Int), (1 : Int)), (2, 5)] = [(0, 1), (2, 5)]) = true from rfl]
  have HV7 := Lib.hid ((HV6.out.alloc_ (.cells #[.int .i64 0, .int .i64 1, .int .i64 2, .int .i64 5] 26)).still hb7)
  clear hb7 HV6 HA7 HL7
  go_wp2
  go_ret
  exact ⟨rfl, HV7.out.below⟩
end Go.Proofs.Ytelkanfmhfopnaa

/- The walk of put. -/
import Derived.Test.YtelkanfmhfopnaaWithout
import Derived.StillTailTactics
namespace Go.Proofs.Ytelkanfmhfopnaa
open Go.RowKit Go.LawEnd

theorem put_zero {l : List Sp} {x : Sp} (h : x.2 = 0) : putF l x = l := by
  rcases List.eq_nil_or_concat l with rfl | ⟨l', y, rfl⟩
  · rw [putF_nil, if_pos h]
  · rw [List.concat_eq_append, putF_last, if_pos h]
theorem sps_last (l : List Sp) (y : Sp) (u : Int) : (sps (l ++ [y])).set (l.length * 2 + 1) (.int .i64 u) = sps (l ++ [(y.1, u)]) := by
  rw [sps_append, sps_append, List.set_append_right _ _ (by rw [sps_length]; omega), sps_length]
  rw [show l.length * 2 + 1 - l.length * 2 = 1 by omega]
  rfl

set_option maxRecDepth 100000 in
set_option maxHeartbeats 3200000 in
theorem put_any {T : Nat → Prop} {v : Value} (l : List Sp) (x : Sp) (w : World) (h : Hid (Sep [rsA v l] w T)) (hl : l.length ≤ 3000000) (hx : Hid (0 ≤ x.1 ∧ 0 ≤ x.2 ∧ en x ≤ 2097152)) (hs : Hid (∀ y ∈ l, 0 ≤ y.1 ∧ 0 ≤ y.2 ∧ en y ≤ 1048576)) :
    Calls Try.prog 35 #[v, .agg #[.int .i64 x.1, .int .i64 x.2]] w fun e w' => ∃ v', e = .returned v' ∧ Hv w T [rsA v' (putF l x)] w' ∧ (putF l x = [] → v' = v) := by
  obtain ⟨x0, x1⟩ := x
  have hx0 := hx.out
  simp only [en] at hx0
  obtain ⟨hx1, hx2, hx3⟩ := hx0
  have HW : Hid (Hv w T [rsA v l, blkA w.heap.size 26 #[.int .i64 x0, .int .i64 x1]] (w.alloc (.cells #[.int .i64 x0, .int .i64 x1] 26))) := ((Hv.start h.out).alloc 26 #[.int .i64 x0, .int .i64 x1]).pick [1, 0]
  obtain ⟨A, c, rfl, hA⟩ := SpArg.of_own ((Hv.start h.out).row (i := 0) rfl)
  have HA := Lib.hid hA
  clear hA
  rcases List.eq_nil_or_concat l with rfl | ⟨l', y, rfl⟩
  · by_cases h0 : x1 = 0
    · subst h0
      go_enter Try.func35, Try.ntmps35
      go_wp2
      go_ret
      exact ⟨_, rfl, by rw [put_zero rfl]; exact HW.out.drop [rsA _ _] _, fun _ => rfl⟩
    · have b0 : (x1 == 0) = false := by rw [beq_eq_false_iff_ne]; exact h0
      go_enter Try.func35, Try.ntmps35
      go_wp2_with fail
      obtain ⟨P3, hP3⟩ : ∃ y, y = w.heap.size := ⟨_, rfl⟩
      obtain ⟨V, hV⟩ : ∃ y, y = w.alloc (.cells #[.int .i64 x0, .int .i64 x1] 26) := ⟨_, rfl⟩
      rw [← hV, ← hP3] at HW ⊢
      clear hV hP3
      refine wp_region_quiet_below (by kernel_rfl) (by kernel_rfl) ?_
      repeat (go_big_quiet_step ((go_at_call 33; exact calls_ext (Nat.le_refl _) _ (end_at _ _ _ (by omega) (by omega) (by omega) (by omega)))))
      refine wpQuiet_nil ?_
      intro W2 hw2
      obtain ⟨q, hq⟩ := hw2
      have hb2 := q.below
      rw [← hq] at hb2
      clear hq q
      have HV2 := Lib.hid (HW.out.still hb2)
      clear hb2
      have k2 : W2.cell? ⟨P3, 0, none⟩ = some (.int .i64 x0) := by simpa using (HV2.out.blk (i := 1) rfl).cell 0
      have k3 : W2.cell? ⟨P3, 1, none⟩ = some (.int .i64 x1) := by simpa using (HV2.out.blk (i := 1) rfl).cell 1
      obtain ⟨g, cap, W3, hE, hH⟩ := app_span HV2.out 26 (by simp) (x0, x1)
      have HE := Lib.hid hE
      have HH := Lib.hid hH
      clear hE hH
      go_wp2_with (first | (at_builtin; refine wpList_append_run rfl (.tmp 39) (.tmp 41) _ rfl HE.out ?_) | fail)
      go_ret
      refine ⟨_, rfl, ?_, fun e => ?_⟩
      · rw [putF_nil, if_neg (show ¬ (x0, x1).2 = 0 from h0)]
        exact HH.out.drop [rsA _ _] _
      · rw [putF_nil, if_neg (show ¬ (x0, x1).2 = 0 from h0)] at e
        cases e
  · rw [List.concat_eq_append] at *
    obtain ⟨m, hm⟩ : ∃ m, m = l'.length := ⟨_, rfl⟩
    have hm1 : (l' ++ [y]).length = m + 1 := by rw [hm]; simp
    have hy := hs.out y (by simp)
    obtain ⟨y0, y1⟩ := y
    simp only [en] at hy
    obtain ⟨hy0, hy1, hy2⟩ := hy
    obtain ⟨g, cap, e⟩ : ∃ g cap, Value.slice A (l' ++ [(y0, y1)]).length c = .slice (some ⟨g, 0, none⟩) (m + 1) cap := by
      obtain ⟨g, cap, e, _⟩ := ((Hv.start h.out).row (i := 0) rfl).form (by omega)
      exact ⟨g, cap, by rw [e, hm1]⟩
    rw [e] at HW h ⊢
    rw [hm1] at hl
    clear HA e
    have HN : Hid (l'.length = m) := hm.symm
    have HN1 := Lib.hid hm1
    clear hm hm1
    by_cases h0 : x1 = 0
    · subst h0
      go_enter Try.func35, Try.ntmps35
      go_wp2
      go_ret
      exact ⟨_, rfl, by rw [put_zero rfl]; exact HW.out.drop [rsA _ _] _, fun _ => rfl⟩
    · have b0 : (x1 == 0) = false := by rw [beq_eq_false_iff_ne]; exact h0
      go_enter Try.func35, Try.ntmps35
      go_wp2_with fail
      obtain ⟨P3, hP3⟩ : ∃ y, y = w.heap.size := ⟨_, rfl⟩
      obtain ⟨V, hV⟩ : ∃ y, y = w.alloc (.cells #[.int .i64 x0, .int .i64 x1] 26) := ⟨_, rfl⟩
      rw [← hV, ← hP3] at HW ⊢
      clear hV hP3
      have HC : Hid (∀ W : World, Hv w T [rsA (.slice (some ⟨g, 0, none⟩) (m + 1) cap) (l' ++ [(y0, y1)]), blkA P3 26 #[.int .i64 x0, .int .i64 x1]] W →
          (W.cell? ⟨g, m * 2, none⟩ = some (.int .i64 y0) ∧ W.cell? ⟨g, m * 2 + 1, none⟩ = some (.int .i64 y1)) ∧ (W.cell? ⟨P3, 0, none⟩ = some (.int .i64 x0) ∧ W.cell? ⟨P3, 1, none⟩ = some (.int .i64 x1)) ∧ W.frozen? ⟨g, m * 2 + 1, none⟩ = false) := fun W hv => by
        have hr := hv.row (i := 0) rfl
        have hk := hv.blk (i := 1) rfl
        rw [HN1.out] at hr
        have hg := sps_get (l' ++ [(y0, y1)]) m (by rw [HN1.out]; omega)
        have hgm : (l' ++ [(y0, y1)])[m]'(by rw [HN1.out]; omega) = (y0, y1) := by simp [← HN.out]
        rw [hgm] at hg
        exact ⟨⟨by rw [hr.cellAt _ (by omega)]; exact hg.1, by rw [hr.cellAt _ (by omega)]; exact hg.2⟩, ⟨by simpa using hk.cell 0, by simpa using hk.cell 1⟩, hr.frozenAt _⟩
      have k0 : ∀ q : ExtB V.heap.size V, q.w.cell? ⟨g, m * 2, none⟩ = some (.int .i64 y0) := fun q => (HC.out _ (HW.out.still q.below)).1.1
      have k1 : ∀ q : ExtB V.heap.size V, q.w.cell? ⟨g, m * 2 + 1, none⟩ = some (.int .i64 y1) := fun q => (HC.out _ (HW.out.still q.below)).1.2
      have k2 : ∀ q : ExtB V.heap.size V, q.w.cell? ⟨P3, 0, none⟩ = some (.int .i64 x0) := fun q => (HC.out _ (HW.out.still q.below)).2.1.1
      have k3 : ∀ q : ExtB V.heap.size V, q.w.cell? ⟨P3, 1, none⟩ = some (.int .i64 x1) := fun q => (HC.out _ (HW.out.still q.below)).2.1.2
      have b1 : decide ((0 : Int) < (m : Int) + 1) = true := decide_eq_true (by omega)
      have e7 : IntKind.i64.wrap ((m : Int) + 1 - 1) = m := by rw [Int.add_sub_cancel]; exact IntWalk.i64_in _ (by omega)
      have e8 : IntKind.i64.wrap (m : Int) = m := IntWalk.i64_in _ (by omega)
      by_cases h1 : y0 + y1 = x0
      · have b2 : (y0 + y1 == x0) = true := by rw [beq_iff_eq]; exact h1
        refine wp_region_quiet_below (by kernel_rfl) (by kernel_rfl) ?_
        repeat (go_big_quiet_step ((go_at_call 33; exact calls_ext (Nat.le_refl _) _ (end_at _ _ _ (by omega) (by omega) (by omega) (by omega)))))
        refine wpQuiet_nil ?_
        intro W2 hw2
        obtain ⟨q, hq⟩ := hw2
        have hb2 := q.below
        rw [← hq] at hb2
        clear hq q
        have HV2 := Lib.hid (HW.out.still hb2)
        clear hb2 k0 k1 k2 k3
        obtain ⟨⟨k0, k1⟩, ⟨k2, k3⟩, k4⟩ := HC.out _ HV2.out
        have e9 : IntKind.i64.wrap (y1 + x1) = y1 + x1 := IntWalk.i64_in _ (by omega)
        have f1 : (0 : Int) ≤ (m : Int) := by omega
        have f2 : (m : Int) < (m : Int) + 1 := by omega
        have f3 : m < m + 1 := by omega
        have f4 : ¬ (m : Int) < 0 := by omega
        go_wp2_with fail
        go_still_tail 11, (by kernel_rfl)
        change wpList _ _ _ _ _ W2.drew
        have HVD := Lib.hid HV2.out.drew
        clear HV2 k0 k1 k2 k3 k4
        generalize W2.drew = W4 at HVD ⊢
        obtain ⟨⟨k0, k1⟩, ⟨k2, k3⟩, k4⟩ := HC.out _ HVD.out
        go_wp2
        go_ret
        refine ⟨.slice (some ⟨g, 0, none⟩) (m + 1) cap, rfl, ?_, fun e => ?_⟩
        · rw [putF_last, if_neg (show ¬ (x0, x1).2 = 0 from h0), if_pos (show en (y0, y1) = (x0, x1).1 from h1)]
          have hv0 := HVD.out
          unfold rsA at hv0
          rw [HN1.out] at hv0
          have hz := hv0.rowSet (m * 2 + 1) (.int .i64 (y1 + x1))
          have hs := sps_last l' (y0, y1) (y1 + x1)
          rw [HN.out] at hs
          rw [hs] at hz
          have hl : (l' ++ [(y0, y1 + x1)]).length = m + 1 := by rw [List.length_append, HN.out]; rfl
          rw [show rsA (.slice (some ⟨g, 0, none⟩) (m + 1) cap) (l' ++ [(y0, y1 + x1)]) = rowA (.slice (some ⟨g, 0, none⟩) (m + 1) cap) 26 2 (m + 1) (sps (l' ++ [(y0, y1 + x1)])) by unfold rsA; rw [hl]]
          exact hz.drop [rowA _ _ _ _ _] _
        · rfl
      · have b2 : (y0 + y1 == x0) = false := by rw [beq_eq_false_iff_ne]; exact h1
        refine wp_region_quiet_below (by kernel_rfl) (by kernel_rfl) ?_
        repeat (go_big_quiet_step ((go_at_call 33; exact calls_ext (Nat.le_refl _) _ (end_at _ _ _ (by omega) (by omega) (by omega) (by omega)))))
        refine wpQuiet_nil ?_
        intro W2 hw2
        obtain ⟨q, hq⟩ := hw2
        have hb2 := q.below
        rw [← hq] at hb2
        clear hq q
        have HV2 := Lib.hid (HW.out.still hb2)
        clear hb2 k0 k1 k2 k3
        obtain ⟨⟨k0, k1⟩, ⟨k2, k3⟩, k4⟩ := HC.out _ HV2.out
        have HL4 : Hid ((l' ++ [(y0, y1)]).length ≤ 4000000) := by rw [HN1.out]; show _ ≤ _; omega
        obtain ⟨g', cap', W3, hE, hH⟩ := app_span HV2.out 26 HL4.out (x0, x1)
        rw [HN1.out] at hE hH
        have HE := Lib.hid hE
        have HH := Lib.hid hH
        clear hE hH
        go_wp2_with (first | (at_builtin; refine wpList_append_run rfl (.tmp 39) (.tmp 41) _ rfl HE.out ?_) | fail)
        go_ret
        refine ⟨_, rfl, ?_, fun e => ?_⟩
        · rw [putF_last, if_neg (show ¬ (x0, x1).2 = 0 from h0), if_neg (show ¬ en (y0, y1) = (x0, x1).1 from h1)]
          exact HH.out.drop [rsA _ _] _
        · rw [putF_last, if_neg (show ¬ (x0, x1).2 = 0 from h0), if_neg (show ¬ en (y0, y1) = (x0, x1).1 from h1)] at e
          simp at e
end Go.Proofs.Ytelkanfmhfopnaa

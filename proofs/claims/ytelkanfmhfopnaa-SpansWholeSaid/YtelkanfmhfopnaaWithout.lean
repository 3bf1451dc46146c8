/- The walk of without. Printed by gen_without.py. -/
import Derived.Test.YtelkanfmhfopnaaSp
namespace Go.Proofs.Ytelkanfmhfopnaa
open Go.RowKit Go.LawEnd

theorem pieceA_len (x y : Sp) : (pieceA x y).length ≤ 1 := by unfold pieceA; (repeat' split) <;> simp
theorem pieceB_len (x y : Sp) : (pieceB x y).length ≤ 1 := by unfold pieceB; (repeat' split) <;> simp
theorem ahead_len (l : List Sp) (x : Sp) : (aheadF l x).length ≤ l.length := by
  induction l with
  | nil => simp [aheadF]
  | cons y l ih => rw [ahead_cons, List.length_append, List.length_cons]; have := pieceA_len x y; omega
theorem behind_len (l : List Sp) (x : Sp) : (behindF l x).length ≤ l.length := by
  induction l with
  | nil => simp [behindF]
  | cons y l ih => rw [behind_cons, List.length_append, List.length_cons]; have := pieceB_len x y; omega
/-- what without has laid behind some spans -/
structure WI (w wr : World) (P3 : Nat) (x : Sp) (L : List Sp) (vA vB : Value) : Prop where
  hv : Hv w No [rsA vA (aheadF L x), rsA vB (behindF L x), blkA P3 26 #[.int .i64 x.1, .int .i64 x.2]] wr
  a0 : aheadF L x = [] → vA = .slice none 0 0
  b0 : behindF L x = [] → vB = .slice none 0 0
theorem WI.next {w wr : World} {P3 k : Nat} {x y : Sp} {l : List Sp} {vA vB : Value} (hk : k < l.length) (hy : y = l[k]) {a b : List Sp} (ha : pieceA x y = a) (hb : pieceB x y = b)
    (hv : Hv w No [rsA vA (aheadF (l.take k) x ++ a), rsA vB (behindF (l.take k) x ++ b), blkA P3 26 #[.int .i64 x.1, .int .i64 x.2]] wr) (a0 : aheadF (l.take k) x ++ a = [] → vA = .slice none 0 0) (b0 : behindF (l.take k) x ++ b = [] → vB = .slice none 0 0) :
    WI w wr P3 x (l.take (k + 1)) vA vB := by
  subst ha hb
  have e1 : aheadF (l.take (k + 1)) x = aheadF (l.take k) x ++ pieceA x y := by rw [List.take_succ_eq_append_getElem hk, ahead_snoc, hy]
  have e2 : behindF (l.take (k + 1)) x = behindF (l.take k) x ++ pieceB x y := by rw [List.take_succ_eq_append_getElem hk, behind_snoc, hy]
  exact ⟨by rw [e1, e2]; exact hv, by rw [e1]; exact a0, by rw [e2]; exact b0⟩

set_option maxRecDepth 100000 in
set_option maxHeartbeats 3200000 in
theorem without_any (A : Option Addr) (cp : Nat) (l : List Sp) (x : Sp) (w : World) (h : Hid (SpArg w A l)) (hl : l.length ≤ 2000000) (hx : Hid (May x)) (hs : Hid (∀ y ∈ l, 0 ≤ y.1 ∧ 0 ≤ y.2 ∧ en y ≤ 1048576)) :
    Calls Try.prog 34 #[.slice A l.length cp, .agg #[.int .i64 x.1, .int .i64 x.2]] w fun e w' => ∃ vA vB, e = .returned (.tuple #[vA, vB]) ∧ Hv w No [rsA vA (aheadF l x), rsA vB (behindF l x)] w' ∧ (aheadF l x = [] → vA = .slice none 0 0) ∧ (behindF l x = [] → vB = .slice none 0 0) := by
  obtain ⟨x0, x1⟩ := x
  have hx0 := hx.out
  simp only [May, en] at hx0
  obtain ⟨hx1, hx2, hx3⟩ := hx0
  go_enter Try.func34, Try.ntmps34
  go_wp2_with fail
  go_step3
  go_wp2_with fail
  go_step3
  go_wp2_with fail
  obtain ⟨P3, hP3⟩ : ∃ y, y = w.heap.size := ⟨_, rfl⟩
  obtain ⟨w0, hw0⟩ : ∃ y, y = w.alloc (.cells #[.int .i64 x0, .int .i64 x1] 26) := ⟨_, rfl⟩
  rw [← hw0, ← hP3]
  have HV0 : Hid (Hv w No [rsA (.slice none 0 0) [], rsA (.slice none 0 0) [], blkA P3 26 #[.int .i64 x0, .int .i64 x1]] w0) := by
    rw [hw0, hP3]
    exact (((Hv.begin w).alloc 26 #[.int .i64 x0, .int .i64 x1]).nilRow 26 2).nilRow 26 2
  clear hw0 hP3
  go_loopw [4, 5, 10] (fun vA vB i wr => ∃ k : Nat, k ≤ l.length ∧ i = .int .i64 k ∧ WI w wr P3 (x0, x1) (l.take k) vA vB) (fun _ _ i _ => l.length - (intOf i).toNat)
  case atStart => exact ⟨0, by omega, rfl, ⟨HV0.out, fun _ => rfl, fun _ => rfl⟩⟩
  case round =>
    obtain ⟨k, hk, rfl, HI⟩ := hrel
    have HI0 := Lib.hid HI
    clear HI
    by_cases hkl : k < l.length
    · obtain ⟨b, off, rfl, hb, c0, c1⟩ := h.out k hkl
      obtain ⟨y, hy⟩ : ∃ y, y = l[k] := ⟨_, rfl⟩
      rw [← hy] at c0 c1
      have hyv := hs.out y (hy ▸ List.getElem_mem hkl)
      obtain ⟨y0, y1⟩ := y
      simp only [en] at hyv
      obtain ⟨hy1, hy2, hy3⟩ := hyv
      have HY := Lib.hid hy
      clear hy
      have hbw := HI0.out.hv.below
      have d0 : wr.cell? ⟨b, off + k * 2, none⟩ = some (.int .i64 y0) := (hbw.cell (p := ⟨b, off + k * 2, none⟩) hb).trans c0
      have d1 : wr.cell? ⟨b, off + k * 2 + 1, none⟩ = some (.int .i64 y1) := (hbw.cell (p := ⟨b, off + k * 2 + 1, none⟩) hb).trans c1
      clear hbw hb c0 c1
      go_wp2_with fail
      obtain ⟨P7, hP7⟩ : ∃ y, y = wr.heap.size := ⟨_, rfl⟩
      obtain ⟨V, hV⟩ : ∃ y, y = wr.alloc (.cells #[.int .i64 y0, .int .i64 y1] 26) := ⟨_, rfl⟩
      rw [← hV, ← hP7]
      have HV : Hid (Hv w No [rsA u4 (aheadF (l.take k) (x0, x1)), rsA u5 (behindF (l.take k) (x0, x1)), blkA P3 26 #[.int .i64 x0, .int .i64 x1], blkA P7 26 #[.int .i64 y0, .int .i64 y1]] V) := by
        have h := HI0.out.hv.alloc 26 #[.int .i64 y0, .int .i64 y1]
        rw [hV, hP7]
        exact h.pick [1, 2, 3, 0]
      clear hV hP7 d0 d1
      by_cases hA : y0 + y1 ≤ x0
      · have HPA : Hid (pieceA (x0, x1) (y0, y1) = [(y0, y1)]) := if_pos hA
        have HPB : Hid (pieceB (x0, x1) (y0, y1) = []) := if_pos hA

        have dA : decide (y0 + y1 ≤ x0) = true := decide_eq_true hA
        have k0 : ∀ q : ExtB V.heap.size V, q.w.cell? ⟨P7, 0, none⟩ = some (.int .i64 y0) := fun q => by simpa using ((HV.out.still q.below).blk (i := 3) rfl).cell 0
        have k1 : ∀ q : ExtB V.heap.size V, q.w.cell? ⟨P7, 1, none⟩ = some (.int .i64 y1) := fun q => by simpa using ((HV.out.still q.below).blk (i := 3) rfl).cell 1
        have k2 : ∀ q : ExtB V.heap.size V, q.w.cell? ⟨P3, 0, none⟩ = some (.int .i64 x0) := fun q => by simpa using ((HV.out.still q.below).blk (i := 2) rfl).cell 0
        have k3 : ∀ q : ExtB V.heap.size V, q.w.cell? ⟨P3, 1, none⟩ = some (.int .i64 x1) := fun q => by simpa using ((HV.out.still q.below).blk (i := 2) rfl).cell 1

        refine wp_region_quiet_below (by kernel_rfl) (by kernel_rfl) ?_
        repeat (go_big_quiet_step ((go_at_call 33; exact calls_ext (Nat.le_refl _) _ (end_at _ _ _ (by omega) (by omega) (by omega) (by omega)))))
        refine wpQuiet_nil ?_
        intro V2 hw2
        obtain ⟨q, hq⟩ := hw2
        have hb2 := q.below
        rw [← hq] at hb2
        clear hq q
        have HV2 := Lib.hid (HV.out.still hb2)
        clear hb2
        clear k0 k1 k2 k3
        have k0 : V2.cell? ⟨P7, 0, none⟩ = some (.int .i64 y0) := by simpa using (HV2.out.blk (i := 3) rfl).cell 0
        have k1 : V2.cell? ⟨P7, 1, none⟩ = some (.int .i64 y1) := by simpa using (HV2.out.blk (i := 3) rfl).cell 1
        have k2 : V2.cell? ⟨P3, 0, none⟩ = some (.int .i64 x0) := by simpa using (HV2.out.blk (i := 2) rfl).cell 0
        have k3 : V2.cell? ⟨P3, 1, none⟩ = some (.int .i64 x1) := by simpa using (HV2.out.blk (i := 2) rfl).cell 1

        obtain ⟨g, cap, W3, hE, hH⟩ := app_span HV2.out 26 (Nat.le_trans (ahead_len _ _) (by simp; omega)) (y0, y1)
        have HE := Lib.hid hE
        have HH := Lib.hid hH
        clear hE hH
        go_wp2_with (first | (at_builtin; refine wpList_append_run rfl (.tmp 20) (.tmp 22) _ rfl HE.out ?_) | fail)
        go_roundw
        case rel => exact ⟨k + 1, by omega, by go_num, WI.next hkl HY.out (a := [(y0, y1)]) (b := []) HPA.out HPB.out (by rw [List.append_nil]; exact HH.out.drop [rsA _ _, rsA _ _, blkA _ _ _] _) (fun e => by simp at e) (by rw [List.append_nil]; exact HI0.out.b0)⟩
        case measure => simp [intOf]; omega
      · have dA : decide (y0 + y1 ≤ x0) = false := decide_eq_false hA
        have k0 : ∀ q : ExtB V.heap.size V, q.w.cell? ⟨P7, 0, none⟩ = some (.int .i64 y0) := fun q => by simpa using ((HV.out.still q.below).blk (i := 3) rfl).cell 0
        have k1 : ∀ q : ExtB V.heap.size V, q.w.cell? ⟨P7, 1, none⟩ = some (.int .i64 y1) := fun q => by simpa using ((HV.out.still q.below).blk (i := 3) rfl).cell 1
        have k2 : ∀ q : ExtB V.heap.size V, q.w.cell? ⟨P3, 0, none⟩ = some (.int .i64 x0) := fun q => by simpa using ((HV.out.still q.below).blk (i := 2) rfl).cell 0
        have k3 : ∀ q : ExtB V.heap.size V, q.w.cell? ⟨P3, 1, none⟩ = some (.int .i64 x1) := fun q => by simpa using ((HV.out.still q.below).blk (i := 2) rfl).cell 1

        refine wp_region_quiet_below (by kernel_rfl) (by kernel_rfl) ?_
        repeat (go_big_quiet_step ((go_at_call 33; exact calls_ext (Nat.le_refl _) _ (end_at _ _ _ (by omega) (by omega) (by omega) (by omega)))))
        refine wpQuiet_nil ?_
        intro V2 hw2
        obtain ⟨q, hq⟩ := hw2
        have hb2 := q.below
        rw [← hq] at hb2
        clear hq q
        have HV2 := Lib.hid (HV.out.still hb2)
        clear hb2
        clear k0 k1 k2 k3
        go_wp2_with fail
        by_cases hB : x0 + x1 ≤ y0
        · have HPA : Hid (pieceA (x0, x1) (y0, y1) = []) := (if_neg (show ¬ en (y0, y1) ≤ x0 by simp only [en]; omega)).trans (if_pos hB)
          have HPB : Hid (pieceB (x0, x1) (y0, y1) = [(y0, y1)]) := (if_neg (show ¬ en (y0, y1) ≤ x0 by simp only [en]; omega)).trans (if_pos hB)

          have dB : decide (x0 + x1 ≤ y0) = true := decide_eq_true hB
          have k0 : ∀ q : ExtB V2.heap.size V2, q.w.cell? ⟨P7, 0, none⟩ = some (.int .i64 y0) := fun q => by simpa using ((HV2.out.still q.below).blk (i := 3) rfl).cell 0
          have k1 : ∀ q : ExtB V2.heap.size V2, q.w.cell? ⟨P7, 1, none⟩ = some (.int .i64 y1) := fun q => by simpa using ((HV2.out.still q.below).blk (i := 3) rfl).cell 1
          have k2 : ∀ q : ExtB V2.heap.size V2, q.w.cell? ⟨P3, 0, none⟩ = some (.int .i64 x0) := fun q => by simpa using ((HV2.out.still q.below).blk (i := 2) rfl).cell 0
          have k3 : ∀ q : ExtB V2.heap.size V2, q.w.cell? ⟨P3, 1, none⟩ = some (.int .i64 x1) := fun q => by simpa using ((HV2.out.still q.below).blk (i := 2) rfl).cell 1

          refine wp_region_quiet_below (by kernel_rfl) (by kernel_rfl) ?_
          repeat (go_big_quiet_step ((go_at_call 33; exact calls_ext (Nat.le_refl _) _ (end_at _ _ _ (by omega) (by omega) (by omega) (by omega)))))
          refine wpQuiet_nil ?_
          intro V3 hw2
          obtain ⟨q, hq⟩ := hw2
          have hb2 := q.below
          rw [← hq] at hb2
          clear hq q
          have HV3 := Lib.hid (HV2.out.still hb2)
          clear hb2
          clear k0 k1 k2 k3
          have k0 : V3.cell? ⟨P7, 0, none⟩ = some (.int .i64 y0) := by simpa using (HV3.out.blk (i := 3) rfl).cell 0
          have k1 : V3.cell? ⟨P7, 1, none⟩ = some (.int .i64 y1) := by simpa using (HV3.out.blk (i := 3) rfl).cell 1
          have k2 : V3.cell? ⟨P3, 0, none⟩ = some (.int .i64 x0) := by simpa using (HV3.out.blk (i := 2) rfl).cell 0
          have k3 : V3.cell? ⟨P3, 1, none⟩ = some (.int .i64 x1) := by simpa using (HV3.out.blk (i := 2) rfl).cell 1

          obtain ⟨g, cap, W3, hE, hH⟩ := app_span (HV3.out.pick [1, 0, 2, 3]) 26 (Nat.le_trans (behind_len _ _) (by simp; omega)) (y0, y1)
          have HE := Lib.hid hE
          have HH := Lib.hid hH
          clear hE hH
          go_wp2_with (first | (at_builtin; refine wpList_append_run rfl (.tmp 30) (.tmp 32) _ rfl HE.out ?_) | fail)
          go_roundw
          case rel => exact ⟨k + 1, by omega, by go_num, WI.next hkl HY.out (a := []) (b := [(y0, y1)]) HPA.out HPB.out (by rw [List.append_nil]; exact HH.out.pick [1, 0, 2]) (by rw [List.append_nil]; exact HI0.out.a0) (fun e => by simp at e)⟩
          case measure => simp [intOf]; omega
        · have dB : decide (x0 + x1 ≤ y0) = false := decide_eq_false hB
          have k0 : ∀ q : ExtB V2.heap.size V2, q.w.cell? ⟨P7, 0, none⟩ = some (.int .i64 y0) := fun q => by simpa using ((HV2.out.still q.below).blk (i := 3) rfl).cell 0
          have k1 : ∀ q : ExtB V2.heap.size V2, q.w.cell? ⟨P7, 1, none⟩ = some (.int .i64 y1) := fun q => by simpa using ((HV2.out.still q.below).blk (i := 3) rfl).cell 1
          have k2 : ∀ q : ExtB V2.heap.size V2, q.w.cell? ⟨P3, 0, none⟩ = some (.int .i64 x0) := fun q => by simpa using ((HV2.out.still q.below).blk (i := 2) rfl).cell 0
          have k3 : ∀ q : ExtB V2.heap.size V2, q.w.cell? ⟨P3, 1, none⟩ = some (.int .i64 x1) := fun q => by simpa using ((HV2.out.still q.below).blk (i := 2) rfl).cell 1

          refine wp_region_quiet_below (by kernel_rfl) (by kernel_rfl) ?_
          repeat (go_big_quiet_step ((go_at_call 33; exact calls_ext (Nat.le_refl _) _ (end_at _ _ _ (by omega) (by omega) (by omega) (by omega)))))
          refine wpQuiet_nil ?_
          intro V3 hw2
          obtain ⟨q, hq⟩ := hw2
          have hb2 := q.below
          rw [← hq] at hb2
          clear hq q
          have HV3 := Lib.hid (HV2.out.still hb2)
          clear hb2
          clear k0 k1 k2 k3

          by_cases hD : x0 + x1 < y0 + y1
          · have dD : decide (x0 + x1 < y0 + y1) = true := decide_eq_true hD
            by_cases hC : y0 < x0
            · have HPA : Hid (pieceA (x0, x1) (y0, y1) = [(y0, x0 - y0)]) := (if_neg (show ¬ en (y0, y1) ≤ x0 by simp only [en]; omega)).trans ((if_neg (show ¬ en (x0, x1) ≤ y0 by simp only [en]; omega)).trans (if_pos hC))
              have HPB : Hid (pieceB (x0, x1) (y0, y1) = [(x0 + x1, y0 + y1 - (x0 + x1))]) := (if_neg (show ¬ en (y0, y1) ≤ x0 by simp only [en]; omega)).trans ((if_neg (show ¬ en (x0, x1) ≤ y0 by simp only [en]; omega)).trans (if_pos hD))
              have k0 : V3.cell? ⟨P7, 0, none⟩ = some (.int .i64 y0) := by simpa using (HV3.out.blk (i := 3) rfl).cell 0
              have k1 : V3.cell? ⟨P7, 1, none⟩ = some (.int .i64 y1) := by simpa using (HV3.out.blk (i := 3) rfl).cell 1
              have k2 : V3.cell? ⟨P3, 0, none⟩ = some (.int .i64 x0) := by simpa using (HV3.out.blk (i := 2) rfl).cell 0
              have k3 : V3.cell? ⟨P3, 1, none⟩ = some (.int .i64 x1) := by simpa using (HV3.out.blk (i := 2) rfl).cell 1

              obtain ⟨g, cap, W4, hE, hH⟩ := app_span HV3.out 26 (Nat.le_trans (ahead_len _ _) (by simp; omega)) (y0, x0 - y0)
              have HE := Lib.hid hE
              have HV4 := Lib.hid hH
              clear hE hH
              go_wp2_with (first | (at_builtin; refine wpList_append_run rfl (.tmp 39) (.tmp 48) _ rfl HE.out ?_) | fail)
              clear k0 k1 k2 k3
              have k0 : ∀ q : ExtB W4.heap.size W4, q.w.cell? ⟨P7, 0, none⟩ = some (.int .i64 y0) := fun q => by simpa using ((HV4.out.still q.below).blk (i := 3) rfl).cell 0
              have k1 : ∀ q : ExtB W4.heap.size W4, q.w.cell? ⟨P7, 1, none⟩ = some (.int .i64 y1) := fun q => by simpa using ((HV4.out.still q.below).blk (i := 3) rfl).cell 1
              have k2 : ∀ q : ExtB W4.heap.size W4, q.w.cell? ⟨P3, 0, none⟩ = some (.int .i64 x0) := fun q => by simpa using ((HV4.out.still q.below).blk (i := 2) rfl).cell 0
              have k3 : ∀ q : ExtB W4.heap.size W4, q.w.cell? ⟨P3, 1, none⟩ = some (.int .i64 x1) := fun q => by simpa using ((HV4.out.still q.below).blk (i := 2) rfl).cell 1

              refine wp_region_quiet_below (by kernel_rfl) (by kernel_rfl) ?_
              repeat (go_big_quiet_step ((go_at_call 33; exact calls_ext (Nat.le_refl _) _ (end_at _ _ _ (by omega) (by omega) (by omega) (by omega)))))
              refine wpQuiet_nil ?_
              intro V5 hw2
              obtain ⟨q, hq⟩ := hw2
              have hb2 := q.below
              rw [← hq] at hb2
              clear hq q
              have HV5 := Lib.hid (HV4.out.still hb2)
              clear hb2
              clear k0 k1 k2 k3

              go_wp2_with fail
              have HC : Hid (∀ (R : List Atom) (W : World), Hv w No (blkA P3 26 #[.int .i64 x0, .int .i64 x1] :: blkA P7 26 #[.int .i64 y0, .int .i64 y1] :: R) W → (W.cell? ⟨P7, 0, none⟩ = some (.int .i64 y0) ∧ W.cell? ⟨P7, 1, none⟩ = some (.int .i64 y1) ∧ W.cell? ⟨P3, 0, none⟩ = some (.int .i64 x0) ∧ W.cell? ⟨P3, 1, none⟩ = some (.int .i64 x1))) := fun R W h => by
                have h3 := h.blk (i := 0) rfl
                have h7 := h.blk (i := 1) rfl
                exact ⟨by simpa using h7.cell 0, by simpa using h7.cell 1, by simpa using h3.cell 0, by simpa using h3.cell 1⟩
              have e6 : IntKind.i64.wrap (y0 + y1 - (x0 + x1)) = y0 + y1 - (x0 + x1) := IntWalk.i64_in _ (by omega)
              have HX : Hid (Hv w No [blkA P3 26 #[.int .i64 x0, .int .i64 x1], blkA P7 26 #[.int .i64 y0, .int .i64 y1], rsA (.slice (some ⟨g, 0, none⟩) ((aheadF (l.take k) (x0, x1)).length + 1) cap) (aheadF (l.take k) (x0, x1) ++ [(y0, x0 - y0)]), rsA u5 (behindF (l.take k) (x0, x1))] V5.drew) := HV5.out.drew.pick [2, 3, 0, 1]
              have HLB : Hid ((behindF (l.take k) (x0, x1)).length ≤ 4000000) := Nat.le_trans (behind_len _ _) (by simp; omega)
              clear HV HV2 HV3 HV5
              go_region_held3 (fun W => W.cell? ⟨P7, 0, none⟩ = some (.int .i64 y0) ∧ W.cell? ⟨P7, 1, none⟩ = some (.int .i64 y1) ∧ W.cell? ⟨P3, 0, none⟩ = some (.int .i64 x0) ∧ W.cell? ⟨P3, 1, none⟩ = some (.int .i64 x1))
                (first | exact HC.out _ _ HX.out | exact HC.out _ _ (HX.out.alloc_ _) | assumption | fail)
                (first
                  | (go_at_call 33; refine (end_at _ _ _ (by omega) (by omega) (by omega) (by omega)).mono ?_; rintro e W6 ⟨rfl, hb6⟩; have HX := Lib.hid (HX.out.still hb6); clear hb6)
                  | (have hQ : Hv w No (rsA u5 (behindF (l.take k) (x0, x1)) :: [blkA P3 26 #[.int .i64 x0, .int .i64 x1], blkA P7 26 #[.int .i64 y0, .int .i64 y1], rsA (.slice (some ⟨g, 0, none⟩) ((aheadF (l.take k) (x0, x1)).length + 1) cap) (aheadF (l.take k) (x0, x1) ++ [(y0, x0 - y0)])]) _ := HX.out.pick [3, 0, 1, 2]; obtain ⟨g2, cap2, W7, hE, hH⟩ := app_span hQ 26 HLB.out (x0 + x1, y0 + y1 - (x0 + x1)); refine step_append_run rfl (.tmp 55) (.tmp 64) 22 rfl (v' := .slice (some ⟨g2, 0, none⟩) ((behindF (l.take k) (x0, x1)).length + 1) cap2) (w' := W7) ?_ ?_; exact hE; have HX : Hid (Hv w No [blkA P3 26 #[.int .i64 x0, .int .i64 x1], blkA P7 26 #[.int .i64 y0, .int .i64 y1], rsA (.slice (some ⟨g, 0, none⟩) ((aheadF (l.take k) (x0, x1)).length + 1) cap) (aheadF (l.take k) (x0, x1) ++ [(y0, x0 - y0)]), rsA _ _] W7) := hH.pick [1, 2, 3, 0]; clear hE hH hQ)
                  | fail)
              go_wp2
              go_roundw
              case rel => exact ⟨k + 1, by omega, by go_num, WI.next hkl HY.out (a := [(y0, x0 - y0)]) (b := [(x0 + x1, y0 + y1 - (x0 + x1))]) HPA.out HPB.out (by exact HX.out.pick [2, 3, 0]) (fun e => by simp at e) (fun e => by simp at e)⟩
              case measure => simp [intOf]; omega
            · have HPA : Hid (pieceA (x0, x1) (y0, y1) = []) := (if_neg (show ¬ en (y0, y1) ≤ x0 by simp only [en]; omega)).trans ((if_neg (show ¬ en (x0, x1) ≤ y0 by simp only [en]; omega)).trans (if_neg (show ¬ y0 < x0 by omega)))
              have HPB : Hid (pieceB (x0, x1) (y0, y1) = [(x0 + x1, y0 + y1 - (x0 + x1))]) := (if_neg (show ¬ en (y0, y1) ≤ x0 by simp only [en]; omega)).trans ((if_neg (show ¬ en (x0, x1) ≤ y0 by simp only [en]; omega)).trans (if_pos hD))
              have k0 : V3.cell? ⟨P7, 0, none⟩ = some (.int .i64 y0) := by simpa using (HV3.out.blk (i := 3) rfl).cell 0
              have k1 : V3.cell? ⟨P7, 1, none⟩ = some (.int .i64 y1) := by simpa using (HV3.out.blk (i := 3) rfl).cell 1
              have k2 : V3.cell? ⟨P3, 0, none⟩ = some (.int .i64 x0) := by simpa using (HV3.out.blk (i := 2) rfl).cell 0
              have k3 : V3.cell? ⟨P3, 1, none⟩ = some (.int .i64 x1) := by simpa using (HV3.out.blk (i := 2) rfl).cell 1

              go_wp2
              clear k0 k1 k2 k3
              have k0 : ∀ q : ExtB V3.heap.size V3, q.w.cell? ⟨P7, 0, none⟩ = some (.int .i64 y0) := fun q => by simpa using ((HV3.out.still q.below).blk (i := 3) rfl).cell 0
              have k1 : ∀ q : ExtB V3.heap.size V3, q.w.cell? ⟨P7, 1, none⟩ = some (.int .i64 y1) := fun q => by simpa using ((HV3.out.still q.below).blk (i := 3) rfl).cell 1
              have k2 : ∀ q : ExtB V3.heap.size V3, q.w.cell? ⟨P3, 0, none⟩ = some (.int .i64 x0) := fun q => by simpa using ((HV3.out.still q.below).blk (i := 2) rfl).cell 0
              have k3 : ∀ q : ExtB V3.heap.size V3, q.w.cell? ⟨P3, 1, none⟩ = some (.int .i64 x1) := fun q => by simpa using ((HV3.out.still q.below).blk (i := 2) rfl).cell 1

              refine wp_region_quiet_below (by kernel_rfl) (by kernel_rfl) ?_
              repeat (go_big_quiet_step ((go_at_call 33; exact calls_ext (Nat.le_refl _) _ (end_at _ _ _ (by omega) (by omega) (by omega) (by omega)))))
              refine wpQuiet_nil ?_
              intro V5 hw2
              obtain ⟨q, hq⟩ := hw2
              have hb2 := q.below
              rw [← hq] at hb2
              clear hq q
              have HV5 := Lib.hid (HV3.out.still hb2)
              clear hb2
              clear k0 k1 k2 k3

              go_wp2_with fail
              have HC : Hid (∀ (R : List Atom) (W : World), Hv w No (blkA P3 26 #[.int .i64 x0, .int .i64 x1] :: blkA P7 26 #[.int .i64 y0, .int .i64 y1] :: R) W → (W.cell? ⟨P7, 0, none⟩ = some (.int .i64 y0) ∧ W.cell? ⟨P7, 1, none⟩ = some (.int .i64 y1) ∧ W.cell? ⟨P3, 0, none⟩ = some (.int .i64 x0) ∧ W.cell? ⟨P3, 1, none⟩ = some (.int .i64 x1))) := fun R W h => by
                have h3 := h.blk (i := 0) rfl
                have h7 := h.blk (i := 1) rfl
                exact ⟨by simpa using h7.cell 0, by simpa using h7.cell 1, by simpa using h3.cell 0, by simpa using h3.cell 1⟩
              have e6 : IntKind.i64.wrap (y0 + y1 - (x0 + x1)) = y0 + y1 - (x0 + x1) := IntWalk.i64_in _ (by omega)
              have HX : Hid (Hv w No [blkA P3 26 #[.int .i64 x0, .int .i64 x1], blkA P7 26 #[.int .i64 y0, .int .i64 y1], rsA u4 (aheadF (l.take k) (x0, x1)), rsA u5 (behindF (l.take k) (x0, x1))] V5.drew) := HV5.out.drew.pick [2, 3, 0, 1]
              have HLB : Hid ((behindF (l.take k) (x0, x1)).length ≤ 4000000) := Nat.le_trans (behind_len _ _) (by simp; omega)
              clear HV HV2 HV3 HV5
              go_region_held3 (fun W => W.cell? ⟨P7, 0, none⟩ = some (.int .i64 y0) ∧ W.cell? ⟨P7, 1, none⟩ = some (.int .i64 y1) ∧ W.cell? ⟨P3, 0, none⟩ = some (.int .i64 x0) ∧ W.cell? ⟨P3, 1, none⟩ = some (.int .i64 x1))
                (first | exact HC.out _ _ HX.out | exact HC.out _ _ (HX.out.alloc_ _) | assumption | fail)
                (first
                  | (go_at_call 33; refine (end_at _ _ _ (by omega) (by omega) (by omega) (by omega)).mono ?_; rintro e W6 ⟨rfl, hb6⟩; have HX := Lib.hid (HX.out.still hb6); clear hb6)
                  | (have hQ : Hv w No (rsA u5 (behindF (l.take k) (x0, x1)) :: [blkA P3 26 #[.int .i64 x0, .int .i64 x1], blkA P7 26 #[.int .i64 y0, .int .i64 y1], rsA u4 (aheadF (l.take k) (x0, x1))]) _ := HX.out.pick [3, 0, 1, 2]; obtain ⟨g2, cap2, W7, hE, hH⟩ := app_span hQ 26 HLB.out (x0 + x1, y0 + y1 - (x0 + x1)); refine step_append_run rfl (.tmp 55) (.tmp 64) 22 rfl (v' := .slice (some ⟨g2, 0, none⟩) ((behindF (l.take k) (x0, x1)).length + 1) cap2) (w' := W7) ?_ ?_; exact hE; have HX : Hid (Hv w No [blkA P3 26 #[.int .i64 x0, .int .i64 x1], blkA P7 26 #[.int .i64 y0, .int .i64 y1], rsA u4 (aheadF (l.take k) (x0, x1)), rsA _ _] W7) := hH.pick [1, 2, 3, 0]; clear hE hH hQ)
                  | fail)
              go_wp2
              go_roundw
              case rel => exact ⟨k + 1, by omega, by go_num, WI.next hkl HY.out (a := []) (b := [(x0 + x1, y0 + y1 - (x0 + x1))]) HPA.out HPB.out (by rw [List.append_nil]; exact HX.out.pick [2, 3, 0]) (by rw [List.append_nil]; exact HI0.out.a0) (fun e => by simp at e)⟩
              case measure => simp [intOf]; omega
          · have dD : decide (x0 + x1 < y0 + y1) = false := decide_eq_false hD
            by_cases hC : y0 < x0
            · have HPA : Hid (pieceA (x0, x1) (y0, y1) = [(y0, x0 - y0)]) := (if_neg (show ¬ en (y0, y1) ≤ x0 by simp only [en]; omega)).trans ((if_neg (show ¬ en (x0, x1) ≤ y0 by simp only [en]; omega)).trans (if_pos hC))
              have HPB : Hid (pieceB (x0, x1) (y0, y1) = []) := (if_neg (show ¬ en (y0, y1) ≤ x0 by simp only [en]; omega)).trans ((if_neg (show ¬ en (x0, x1) ≤ y0 by simp only [en]; omega)).trans (if_neg (show ¬ en (x0, x1) < en (y0, y1) by simp only [en]; omega)))
              have k0 : V3.cell? ⟨P7, 0, none⟩ = some (.int .i64 y0) := by simpa using (HV3.out.blk (i := 3) rfl).cell 0
              have k1 : V3.cell? ⟨P7, 1, none⟩ = some (.int .i64 y1) := by simpa using (HV3.out.blk (i := 3) rfl).cell 1
              have k2 : V3.cell? ⟨P3, 0, none⟩ = some (.int .i64 x0) := by simpa using (HV3.out.blk (i := 2) rfl).cell 0
              have k3 : V3.cell? ⟨P3, 1, none⟩ = some (.int .i64 x1) := by simpa using (HV3.out.blk (i := 2) rfl).cell 1

              obtain ⟨g, cap, W4, hE, hH⟩ := app_span HV3.out 26 (Nat.le_trans (ahead_len _ _) (by simp; omega)) (y0, x0 - y0)
              have HE := Lib.hid hE
              have HV4 := Lib.hid hH
              clear hE hH
              go_wp2_with (first | (at_builtin; refine wpList_append_run rfl (.tmp 39) (.tmp 48) _ rfl HE.out ?_) | fail)
              clear k0 k1 k2 k3
              have k0 : ∀ q : ExtB W4.heap.size W4, q.w.cell? ⟨P7, 0, none⟩ = some (.int .i64 y0) := fun q => by simpa using ((HV4.out.still q.below).blk (i := 3) rfl).cell 0
              have k1 : ∀ q : ExtB W4.heap.size W4, q.w.cell? ⟨P7, 1, none⟩ = some (.int .i64 y1) := fun q => by simpa using ((HV4.out.still q.below).blk (i := 3) rfl).cell 1
              have k2 : ∀ q : ExtB W4.heap.size W4, q.w.cell? ⟨P3, 0, none⟩ = some (.int .i64 x0) := fun q => by simpa using ((HV4.out.still q.below).blk (i := 2) rfl).cell 0
              have k3 : ∀ q : ExtB W4.heap.size W4, q.w.cell? ⟨P3, 1, none⟩ = some (.int .i64 x1) := fun q => by simpa using ((HV4.out.still q.below).blk (i := 2) rfl).cell 1

              refine wp_region_quiet_below (by kernel_rfl) (by kernel_rfl) ?_
              repeat (go_big_quiet_step ((go_at_call 33; exact calls_ext (Nat.le_refl _) _ (end_at _ _ _ (by omega) (by omega) (by omega) (by omega)))))
              refine wpQuiet_nil ?_
              intro V5 hw2
              obtain ⟨q, hq⟩ := hw2
              have hb2 := q.below
              rw [← hq] at hb2
              clear hq q
              have HV5 := Lib.hid (HV4.out.still hb2)
              clear hb2
              clear k0 k1 k2 k3
              go_wp2
              go_roundw
              case rel => exact ⟨k + 1, by omega, by go_num, WI.next hkl HY.out (a := [(y0, x0 - y0)]) (b := []) HPA.out HPB.out (by rw [List.append_nil (behindF _ _)]; exact HV5.out.drop [rsA _ _, rsA _ _, blkA _ _ _] _) (fun e => by simp at e) (by rw [List.append_nil]; exact HI0.out.b0)⟩
              case measure => simp [intOf]; omega
            · have HPA : Hid (pieceA (x0, x1) (y0, y1) = []) := (if_neg (show ¬ en (y0, y1) ≤ x0 by simp only [en]; omega)).trans ((if_neg (show ¬ en (x0, x1) ≤ y0 by simp only [en]; omega)).trans (if_neg (show ¬ y0 < x0 by omega)))
              have HPB : Hid (pieceB (x0, x1) (y0, y1) = []) := (if_neg (show ¬ en (y0, y1) ≤ x0 by simp only [en]; omega)).trans ((if_neg (show ¬ en (x0, x1) ≤ y0 by simp only [en]; omega)).trans (if_neg (show ¬ en (x0, x1) < en (y0, y1) by simp only [en]; omega)))
              have k0 : V3.cell? ⟨P7, 0, none⟩ = some (.int .i64 y0) := by simpa using (HV3.out.blk (i := 3) rfl).cell 0
              have k1 : V3.cell? ⟨P7, 1, none⟩ = some (.int .i64 y1) := by simpa using (HV3.out.blk (i := 3) rfl).cell 1
              have k2 : V3.cell? ⟨P3, 0, none⟩ = some (.int .i64 x0) := by simpa using (HV3.out.blk (i := 2) rfl).cell 0
              have k3 : V3.cell? ⟨P3, 1, none⟩ = some (.int .i64 x1) := by simpa using (HV3.out.blk (i := 2) rfl).cell 1

              go_wp2
              clear k0 k1 k2 k3
              have k0 : ∀ q : ExtB V3.heap.size V3, q.w.cell? ⟨P7, 0, none⟩ = some (.int .i64 y0) := fun q => by simpa using ((HV3.out.still q.below).blk (i := 3) rfl).cell 0
              have k1 : ∀ q : ExtB V3.heap.size V3, q.w.cell? ⟨P7, 1, none⟩ = some (.int .i64 y1) := fun q => by simpa using ((HV3.out.still q.below).blk (i := 3) rfl).cell 1
              have k2 : ∀ q : ExtB V3.heap.size V3, q.w.cell? ⟨P3, 0, none⟩ = some (.int .i64 x0) := fun q => by simpa using ((HV3.out.still q.below).blk (i := 2) rfl).cell 0
              have k3 : ∀ q : ExtB V3.heap.size V3, q.w.cell? ⟨P3, 1, none⟩ = some (.int .i64 x1) := fun q => by simpa using ((HV3.out.still q.below).blk (i := 2) rfl).cell 1

              refine wp_region_quiet_below (by kernel_rfl) (by kernel_rfl) ?_
              repeat (go_big_quiet_step ((go_at_call 33; exact calls_ext (Nat.le_refl _) _ (end_at _ _ _ (by omega) (by omega) (by omega) (by omega)))))
              refine wpQuiet_nil ?_
              intro V5 hw2
              obtain ⟨q, hq⟩ := hw2
              have hb2 := q.below
              rw [← hq] at hb2
              clear hq q
              have HV5 := Lib.hid (HV3.out.still hb2)
              clear hb2
              clear k0 k1 k2 k3
              go_wp2
              go_roundw
              case rel => exact ⟨k + 1, by omega, by go_num, WI.next hkl HY.out (a := []) (b := []) HPA.out HPB.out (by rw [List.append_nil, List.append_nil]; exact HV5.out.drop [rsA _ _, rsA _ _, blkA _ _ _] _) (by rw [List.append_nil]; exact HI0.out.a0) (by rw [List.append_nil]; exact HI0.out.b0)⟩
              case measure => simp [intOf]; omega
    · have hkl2 : l.take k = l := List.take_of_length_le (by omega)
      rw [hkl2] at HI0
      go_wp2
      first | rw [Exit.noGoto_normal] | simp only [Exit.noGoto]
      refine bodyPost_ret (results_tmp2 rfl _ _ _) rfl ?_
      exact ⟨_, _, rfl, HI0.out.hv.drop [rsA _ _, rsA _ _] _, HI0.out.a0, HI0.out.b0⟩
end Go.Proofs.Ytelkanfmhfopnaa

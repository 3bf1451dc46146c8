/- The walk of SpansMoves. -/
import Derived.Test.YtelkanfmhfopnaaAwake
import Derived.Test.YtelkanfmhfopnaaPlain
namespace Go.Proofs.Ytelkanfmhfopnaa
open Go.RowKit Go.LawEnd

theorem row_arg {w0 w : World} {S : Nat → Prop} {L : List Atom} {A : Option Addr} {c n i : Nat} {l : List Sp} (h : Hv w0 S L w) (hi : L[i]? = some (rowA (.slice A n c) 26 2 l.length (sps l))) : SpArg w A l := by
  obtain ⟨A', c', e, h'⟩ := SpArg.of_own (h.row hi)
  injection e with e1 _ _
  rw [e1]; exact h'
theorem total_shf (b : Int) (l : List Sp) : total (l.map (shf b)) = total l := by
  induction l with
  | nil => rfl
  | cons x l ih => rw [List.map_cons, total_cons, total_cons, ih]; rfl

set_option maxRecDepth 100000 in
set_option maxHeartbeats 6400000 in
theorem moves_main (A : Option Addr) (cp : Nat) (l : List Sp) (by_ : Int) (w : World) (h : Hid (SpArg w A l)) (hl : l.length ≤ 40) (hi : Hid (∀ y ∈ l, I64 y)) (hb0 : 0 ≤ by_) (hb1 : by_ ≤ 1048576) :
    Calls Try.prog 3 #[.slice A l.length cp, .int .i64 by_] w (Yes w) := by
  have d0 : decide ((40 : Int) < (l.length : Int)) = false := decide_eq_false (by omega)
  have d1 : decide (by_ < 0) = false := decide_eq_false (by omega)
  have d2 : decide (1048576 < by_) = false := decide_eq_false (by omega)
  go_enter Try.func3, Try.ntmps3
  go_wp2_with fail
  clear d0 d1 d2
  go_loopw [5, 6] (fun v5 i wr => ∃ k : Nat, k ≤ l.length ∧ i = .int .i64 k ∧ Hv w No [rsA v5 ((l.take k).map (shf by_))] wr ∧ ∀ y ∈ l.take k, mayB y = true) (fun _ i _ => l.length - (intOf i).toNat)
  case atStart => exact ⟨0, by omega, rfl, (Hv.begin w).nilRow 26 2, fun y hy => by simp at hy⟩
  case round =>
    obtain ⟨k, hk, rfl, HI, HM⟩ := hrel
    have HV := Lib.hid HI
    have HMB := Lib.hid HM
    clear HI HM
    by_cases hkl : k < l.length
    · obtain ⟨b, off, rfl, hb, c0, c1⟩ := h.out k hkl
      have hil := hi.out l[k] (List.getElem_mem hkl)
      have hts : l.take (k + 1) = l.take k ++ [l[k]] := List.take_succ_eq_append_getElem hkl
      obtain ⟨y, hy⟩ : ∃ y, y = l[k] := ⟨_, rfl⟩
      rw [← hy] at c0 c1 hil hts
      clear hy
      obtain ⟨y0, y1⟩ := y
      have HT := Lib.hid hts
      have HIY := Lib.hid hil
      have hbw := HV.out.below
      have HC : Hid (∀ W : World, Below w.heap.size w W → W.cell? ⟨b, off + k * 2, none⟩ = some (.int .i64 y0) ∧ W.cell? ⟨b, off + k * 2 + 1, none⟩ = some (.int .i64 y1)) := fun W hW => ⟨(hW.cell (p := ⟨b, off + k * 2, none⟩) hb).trans c0, (hW.cell (p := ⟨b, off + k * 2 + 1, none⟩) hb).trans c1⟩
      have k0 := (HC.out _ hbw).1
      have k1 := (HC.out _ hbw).2
      clear hbw hb c0 c1 hts hil
      go_wp2_with fail
      refine (right_any (y0, y1) _ HIY.out).mono ?_
      rintro e w2 ⟨rfl, hb2⟩
      have HV2 := Lib.hid (HV.out.still hb2)
      clear hb2 k0 k1 HV
      by_cases hm : mayB (y0, y1) = true
      · rw [hm]
        have hMx := (mayB_iff _).1 hm
        simp only [May, en] at hMx
        obtain ⟨hm1, hm2, hm3⟩ := hMx
        have HMY := Lib.hid hm
        clear hm
        go_wp2_with fail
        obtain ⟨M, hM⟩ : ∃ M, M = (l.take k).map (shf by_) := ⟨_, rfl⟩
        rw [← hM] at HV2
        have HMM := Lib.hid hM
        clear hM
        have HX := Lib.hid HV2.out.drew
        have k0 := (HC.out _ HX.out.below).1
        have k1 := (HC.out _ HX.out.below).2
        have f1 : (0 : Int) ≤ (k : Int) := by omega
        have f2 : (k : Int) < (l.length : Int) := by omega
        have e7 : IntKind.i64.wrap (y0 + by_) = y0 + by_ := IntWalk.i64_in _ (by omega)
        have HLN : Hid (M.length ≤ 4000000) := by rw [HMM.out]; show _ ≤ _; simp; omega
        clear HV2
        go_region_held3 (fun W => W.cell? ⟨b, off + k * 2, none⟩ = some (.int .i64 y0) ∧ W.cell? ⟨b, off + k * 2 + 1, none⟩ = some (.int .i64 y1))
          (first | exact HC.out _ HX.out.below | exact HC.out _ (HX.out.alloc_ _).below | assumption | fail)
          (first
            | (obtain ⟨g2, cap2, W7, hE, hH⟩ := app_span HX.out 26 HLN.out (y0 + by_, y1); refine step_append_run rfl (.tmp 41) (.tmp 55) 22 rfl (v' := .slice (some ⟨g2, 0, none⟩) (M.length + 1) cap2) (w' := W7) ?_ ?_; exact hE; have HX := Lib.hid hH; clear hE hH)
            | fail)
        go_wp2
        go_roundw
        case rel => exact ⟨k + 1, by omega, by go_num, by rw [HT.out, List.map_append, ← HMM.out]; exact HX.out, fun y hy => by
          rw [HT.out] at hy
          rcases List.mem_append.1 hy with h | h
          · exact HMB.out y h
          · rw [List.mem_singleton.1 h]; exact HMY.out⟩
        case measure => simp [intOf]; omega
      · have hmf : mayB (y0, y1) = false := by simpa using hm
        rw [hmf]
        clear hm hmf
        go_wp2_with fail
        refine (awake_any _).mono ?_
        rintro e w3 ⟨rfl, hb3⟩
        have HV3 := Lib.hid (HV2.out.still hb3)
        clear hb3
        go_wp2
        go_ret
        exact ⟨rfl, HV3.out.below⟩
    · have hkl2 : l.take k = l := List.take_of_length_le (by omega)
      rw [hkl2] at HV HMB
      clear hkl2
      have HA1 := Lib.hid (h.out.below HV.out.below)
      obtain ⟨M, hM⟩ : ∃ M, M = l.map (shf by_) := ⟨_, rfl⟩
      rw [← hM] at HV
      have HMM := Lib.hid hM
      clear hM
      obtain ⟨A5, c5, e5, _⟩ := SpArg.of_own (HV.out.row (i := 0) rfl)
      subst e5
      go_wp2_with fail
      refine (new_may A cp l wr HA1 (by omega) hi HMB.out).mono ?_
      rintro e w2 ⟨s1, rfl, h2⟩
      have HV2 : Hid (Hv w No [rsA (.slice A5 M.length c5) M, setA s1 (newF l)] w2) := (HV.out.add h2).pick [1, 0]
      clear h2 HV HA1
      have HA2 : Hid (SpArg w2 A5 M) := row_arg HV2.out (i := 0) rfl
      have HMAY : Hid (∀ x ∈ l, May x) := fun x hx => (mayB_iff x).1 (HMB.out x hx)
      have HI2 : Hid (∀ y ∈ M, I64 y) := fun y hy => by
        rw [HMM.out] at hy
        obtain ⟨x, hx, rfl⟩ := List.mem_map.1 hy
        have := HMAY.out x hx
        unfold May en at this
        unfold I64 shf
        simp only []
        omega
      have HML : Hid (M.length = l.length) := by show _ = _; rw [HMM.out]; simp
      go_wp2_with fail
      by_cases hma : ∀ y ∈ M, mayB y = true
      · refine (new_may A5 c5 M w2 HA2 (by have := HML.out; omega) HI2 hma).mono ?_
        rintro e w3 ⟨s2, rfl, h3⟩
        have HMAY2 : Hid (∀ x ∈ M, May x) := fun x hx => (mayB_iff x).1 (hma x hx)
        clear hma
        have hXY : newF M = (newF l).map (shf by_) := by
          have := HMAY2.out
          rw [HMM.out] at this ⊢
          exact newF_shf HMAY.out this hb0
        obtain ⟨X, hX⟩ : ∃ X, X = newF l := ⟨_, rfl⟩
        obtain ⟨Y, hY⟩ : ∃ Y, Y = newF M := ⟨_, rfl⟩
        have HOX : Hid (OkS X) := by show OkS X; rw [hX]; exact (newF_ok HMAY.out).1
        have HOY : Hid (OkS Y) := by show OkS Y; rw [hY]; exact (newF_ok HMAY2.out).1
        have HLX : Hid (X.length ≤ 40) := by show _ ≤ _; rw [hX]; exact Nat.le_trans (newF_length HMAY.out) hl
        have HXY : Hid (Y = X.map (shf by_)) := by show _ = _; rw [hX, hY]; exact hXY
        have HLY : Hid (Y.length = X.length) := by show _ = _; rw [HXY.out]; simp
        rw [← hX] at HV2
        rw [← hY] at h3
        have HV3 : Hid (Hv w No [setA s1 X, setA s2 Y] w3) := (HV2.out.add h3).pick [2, 0]
        clear h3 HV2 hX hY hXY HA2 HMAY2 HMAY HI2 HMM HML
        obtain ⟨T3, hT3, hJ3⟩ := Hv.use [setA s1 X] _ HV3.out
        have HT3 := Lib.hid hT3
        clear hT3 hJ3
        go_wp2_with fail
        refine (allOf_any s1 X _ HT3 HOX (by have := HLX.out; omega)).mono ?_
        rintro e w4 ⟨v1, rfl, h4, _⟩
        have HV4 : Hid (Hv w No [setA s2 Y, setA s1 X, rsA v1 X] w4) := (HV3.out.add h4).pick [2, 1, 0]
        clear h4 HV3 HT3
        obtain ⟨A1, c1, e1, _⟩ := SpArg.of_own (HV4.out.row (i := 2) rfl)
        subst e1
        obtain ⟨T4, hT4, hJ4⟩ := Hv.use [setA s2 Y] _ HV4.out
        have HT4 := Lib.hid hT4
        clear hT4 hJ4
        go_wp2_with fail
        refine (allOf_any s2 Y _ HT4 HOY (by have := HLX.out; have := HLY.out; omega)).mono ?_
        rintro e w5 ⟨v2, rfl, h5, _⟩
        have HV5 : Hid (Hv w No [setA s1 X, setA s2 Y, rsA (.slice A1 X.length c1) X, rsA v2 Y] w5) := (HV4.out.add h5).pick [2, 1, 3, 0]
        clear h5 HV4 HT4
        obtain ⟨A2, c2, e2, _⟩ := SpArg.of_own (HV5.out.row (i := 3) rfl)
        subst e2
        obtain ⟨T5, hT5, hJ5⟩ := Hv.use [setA s1 X] _ HV5.out
        have HT5 := Lib.hid hT5
        clear hT5 hJ5
        rw [HLY.out]
        go_wp2_with fail
        refine (len_any s1 X _ HT5 HOX).mono ?_
        rintro e w6 ⟨rfl, hb6⟩
        have HV6 : Hid (Hv w No [setA s2 Y, rsA (.slice A1 X.length c1) X, rsA (.slice A2 Y.length c2) Y] w6) := (HV5.out.still hb6).pick [1, 2, 3]
        clear hb6 HV5 HT5
        obtain ⟨T6, hT6, hJ6⟩ := Hv.use [setA s2 Y] _ HV6.out
        have HT6 := Lib.hid hT6
        clear hT6 hJ6
        go_wp2_with fail
        refine (len_any s2 Y _ HT6 HOY).mono ?_
        rintro e w7 ⟨rfl, hb7⟩
        have HV7 : Hid (Hv w No [rsA (.slice A1 X.length c1) X, rsA (.slice A2 Y.length c2) Y] w7) := (HV6.out.still hb7).pick [1, 2]
        clear hb7 HV6 HT6
        rw [HXY.out, total_shf]
        go_wp2_with fail
        go_loopw [15] (fun i wr => ∃ k2 : Nat, k2 ≤ X.length ∧ i = .int .i64 k2 ∧ Hid (Hv w No [rsA (.slice A1 X.length c1) X, rsA (.slice A2 Y.length c2) Y] wr)) (fun i _ => X.length - (intOf i).toNat)
        case atStart => exact ⟨0, by omega, rfl, HV7⟩
        case round =>
          clear HV7
          obtain ⟨k2, hk2, rfl, HV7⟩ := hrel
          by_cases hkx : k2 < X.length
          · have HX1 : Hid (∀ W : World, Hv w No [rsA (.slice A1 X.length c1) X, rsA (.slice A2 Y.length c2) Y] W → ∃ b1 o1 b2 o2 x0 x1, A1 = some ⟨b1, o1, none⟩ ∧ A2 = some ⟨b2, o2, none⟩ ∧ (0 ≤ x0 ∧ x0 ≤ 1048576) ∧ ∀ q : ExtB W.heap.size W, (q.w.cell? ⟨b1, o1 + k2 * 2, none⟩ = some (.int .i64 x0) ∧ q.w.cell? ⟨b1, o1 + k2 * 2 + 1, none⟩ = some (.int .i64 x1)) ∧ (q.w.cell? ⟨b2, o2 + k2 * 2, none⟩ = some (.int .i64 (x0 + by_)) ∧ q.w.cell? ⟨b2, o2 + k2 * 2 + 1, none⟩ = some (.int .i64 x1))) := by
              intro W hW
              obtain ⟨b1, o1, e1, hb1', p0, p1⟩ := row_arg hW (i := 0) rfl k2 hkx
              obtain ⟨b2, o2, e2, hb2', q0, q1⟩ := row_arg hW (i := 1) rfl k2 (by rw [HLY.out]; exact hkx)
              have hY2 : Y[k2]'(by rw [HLY.out]; exact hkx) = shf by_ X[k2] := by simp only [HXY.out, List.getElem_map]
              rw [hY2] at q0 q1
              have hv := HOX.out.val X[k2] (List.getElem_mem hkx)
              unfold en at hv
              exact ⟨b1, o1, b2, o2, X[k2].1, X[k2].2, e1, e2, ⟨hv.1, by omega⟩, fun q => ⟨⟨(q.below.cell (p := ⟨b1, o1 + k2 * 2, none⟩) hb1').trans p0, (q.below.cell (p := ⟨b1, o1 + k2 * 2 + 1, none⟩) hb1').trans p1⟩, ⟨(q.below.cell (p := ⟨b2, o2 + k2 * 2, none⟩) hb2').trans q0, (q.below.cell (p := ⟨b2, o2 + k2 * 2 + 1, none⟩) hb2').trans q1⟩⟩⟩
            obtain ⟨b1, o1, b2, o2, x0, x1, rfl, rfl, ⟨hx0, hx1⟩, hq⟩ := HX1.out _ HV7.out
            clear HX1
            have m0 : ∀ q : ExtB wr.heap.size wr, q.w.cell? ⟨b1, o1 + k2 * 2, none⟩ = some (.int .i64 x0) := fun q => (hq q).1.1
            have m1 : ∀ q : ExtB wr.heap.size wr, q.w.cell? ⟨b1, o1 + k2 * 2 + 1, none⟩ = some (.int .i64 x1) := fun q => (hq q).1.2
            have m2 : ∀ q : ExtB wr.heap.size wr, q.w.cell? ⟨b2, o2 + k2 * 2, none⟩ = some (.int .i64 (x0 + by_)) := fun q => (hq q).2.1
            have m3 : ∀ q : ExtB wr.heap.size wr, q.w.cell? ⟨b2, o2 + k2 * 2 + 1, none⟩ = some (.int .i64 x1) := fun q => (hq q).2.2
            have e7 : IntKind.i64.wrap (x0 + by_) = x0 + by_ := IntWalk.i64_in _ (by omega)
            have f1 : (0 : Int) ≤ (k2 : Int) := by omega
            have f2 : (k2 : Int) < (X.length : Int) := by omega
            have f3 : X.length ≤ 40 := HLX.out
            clear hq
            go_wp2_with fail
            refine wp_region_quiet_below (by kernel_rfl) (by kernel_rfl) ?_
            repeat (go_big_quiet_step (fail))
            refine wpQuiet_nil ?_
            intro W2 hw2
            obtain ⟨q, hq⟩ := hw2
            have hb2 := q.below
            rw [← hq] at hb2
            clear hq q
            have HV8 := Lib.hid (HV7.out.still hb2)
            clear hb2 m0 m1 m2 m3 HV7
            go_wp2
            go_roundw
            case rel => exact ⟨k2 + 1, by omega, by go_num, HV8⟩
            case measure => simp [intOf]; omega
          · go_wp2_with fail
            refine (awake_any _).mono ?_
            rintro e w8 ⟨rfl, hb8⟩
            have HV8 := Lib.hid (HV7.out.still hb8)
            clear hb8 HV7
            go_wp2
            go_ret
            exact ⟨rfl, HV8.out.below⟩
      · have hmn : ∃ y ∈ M, mayB y = false := by
          simp only [Classical.not_forall] at hma
          obtain ⟨y, hy, hm⟩ := hma
          exact ⟨y, hy, by simpa using hm⟩
        refine (new_not A5 c5 M w2 HA2 (by have := HML.out; omega) HI2 hmn).mono ?_
        rintro e w3 ⟨rfl, hb3⟩
        have HV3 := Lib.hid (HV2.out.still hb3)
        clear hb3 HV2 hma hmn HA2
        go_wp2_with fail
        refine (awake_any _).mono ?_
        rintro e w8 ⟨rfl, hb8⟩
        have HV8 := Lib.hid (HV3.out.still hb8)
        clear hb8 HV3
        go_wp2
        go_ret
        exact ⟨rfl, HV8.out.below⟩
end Go.Proofs.Ytelkanfmhfopnaa

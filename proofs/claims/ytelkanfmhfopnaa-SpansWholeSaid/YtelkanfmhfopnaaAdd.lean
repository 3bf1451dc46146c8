/- The walks of Add and Cut. -/
import Derived.Test.YtelkanfmhfopnaaPut
import Derived.Test.YtelkanfmhfopnaaAppAny
namespace Go.Proofs.Ytelkanfmhfopnaa
open Go.RowKit Go.LawEnd

theorem put_nil_of {l : List Sp} {x : Sp} (h : putF l x = []) : l = [] := by
  rcases List.eq_nil_or_concat l with rfl | ⟨l', y, rfl⟩
  · rfl
  · rw [List.concat_eq_append, putF_last] at h
    split at h
    · simp at h
    · split at h <;> simp at h
theorem oks_take {l : List Sp} (h : OkS l) (k : Nat) : OkS (l.take k) := OkS.left (b := l.drop k) (by rw [List.take_append_drop]; exact h)
theorem part_ok {l : List Sp} {x : Sp} (h : OkS l) (hx : May x) (k : Nat) : OkS (((behindF l x).take k).foldl putF (putF (aheadF l x) x)) := by
  have h1 := put_ok (ahead_ok h).1 hx (ahead_ok h).2
  have h2 := behind_ok h (x := x)
  refine (puts_ok h1.1 (oks_take h2.1 k) fun y hy z hz => ?_).1
  exact Int.le_trans (h1.2.2 y hy) (h2.2 z (List.mem_of_mem_take hz))

theorem hv_mkSet {w0 w : World} {S : Nat → Prop} {s : Nat} {v : Value} {l : List Sp} {R : List Atom} (h : Hv w0 S (blkA s 59 #[v] :: rsA v l :: R) w) (h0 : l = [] → v = .slice none 0 0) : Hv w0 S (setA s l :: R) w := by
  refine Hv.close (f := fun v : Value => [blkA s 59 #[v], rsA v l, pureA (l = [] → v = .slice none 0 0)]) v ?_
  refine (h.pureI h0).perm ?_
  exact (List.Perm.swap _ _ _).trans (List.Perm.cons _ (List.Perm.swap _ _ _))

set_option maxRecDepth 100000 in
set_option maxHeartbeats 3200000 in
theorem add_any {T : Nat → Prop} (s : Nat) (l : List Sp) (x : Sp) (w : World) (h : Hid (Sep [setA s l] w T)) (hok : Hid (OkS l)) (hx1 : -9223372036854775808 ≤ x.2) (hx2 : x.2 ≤ 9223372036854775807) :
    Calls Try.prog 23 #[.pointer (some ⟨s, 0, none⟩), .agg #[.int .i64 x.1, .int .i64 x.2]] w fun e w' => e = .returned (.int .i64 (if mayB x = true then 0 else 10)) ∧ Hv w T [setA s (if mayB x = true then addF l x else l)] w' := by
  obtain ⟨x0, x1⟩ := x
  have HC0 := Lib.hid (fun W : World => check_any s (x0, x1) W hx1 hx2)
  have HW : Hid (Hv w T [setA s l, blkA w.heap.size 26 #[.int .i64 x0, .int .i64 x1]] (w.alloc (.cells #[.int .i64 x0, .int .i64 x1] 26))) := ((Hv.start h.out).alloc 26 #[.int .i64 x0, .int .i64 x1]).pick [1, 0]
  clear hx1 hx2
  go_enter Try.func23, Try.ntmps23
  go_wp2_with fail
  refine (HC0.out _).mono ?_
  rintro e W2 ⟨rfl, hb⟩
  obtain ⟨P3, hP3⟩ : ∃ y, y = w.heap.size := ⟨_, rfl⟩
  rw [← hP3] at HW ⊢
  have HW2 := Lib.hid (HW.out.still hb)
  clear hP3 hb HW HC0
  by_cases hm : mayB (x0, x1) = true
  · have HM := Lib.hid ((mayB_iff _).1 hm)
    rw [if_pos hm]
    have HMB := Lib.hid hm
    clear hm
    obtain ⟨v, hv⟩ := HW2.out.open_
    obtain ⟨A, c, rfl, hA⟩ := SpArg.of_own (hv.row (i := 1) rfl)
    have HV : Hid (Hv w T [rsA (.slice A l.length c) l, pureA (l = [] → Value.slice A l.length c = .slice none 0 0), blkA s 59 #[.slice A l.length c], blkA P3 26 #[.int .i64 x0, .int .i64 x1]] W2) := hv.pick [1, 2, 0, 3]
    have HA := Lib.hid (hA.below ((Below.refl _ W2).drew))
    clear hv hA HW2
    go_wp2_with fail
    have HC : Hid (∀ (R Q : Atom) (L : List Atom) (W : World), Hv w T (R :: Q :: blkA s 59 #[.slice A l.length c] :: blkA P3 26 #[.int .i64 x0, .int .i64 x1] :: L) W → W.cell? ⟨s, 0, none⟩ = some (.slice A l.length c) ∧ W.cell? ⟨P3, 0, none⟩ = some (.int .i64 x0) ∧ W.cell? ⟨P3, 1, none⟩ = some (.int .i64 x1)) := fun R Q L W h => by
      have h3 := h.blk (i := 2) rfl
      have h7 := h.blk (i := 3) rfl
      exact ⟨by simpa using h3.cell 0, by simpa using h7.cell 0, by simpa using h7.cell 1⟩
    have HX := Lib.hid HV.out.drew
    clear HV
    go_region_held3 (fun W => W.cell? ⟨s, 0, none⟩ = some (.slice A l.length c) ∧ W.cell? ⟨P3, 0, none⟩ = some (.int .i64 x0) ∧ W.cell? ⟨P3, 1, none⟩ = some (.int .i64 x1))
      (first | exact HC.out _ _ _ _ HX.out | assumption | fail)
      (first
        | (go_at_call 34; refine (without_any A c l (x0, x1) _ HA (by have := hok.out.len; omega) HM (Lib.hid (fun y hy => by have := hok.out.val y hy; exact ⟨this.1, by omega, this.2.2⟩))).mono ?_; rintro e W3 ⟨vA, vB, rfl, hb3, ha0, hb0⟩; have HX : Hid (Hv w T [rsA vA (aheadF l (x0, x1)), rsA vB (behindF l (x0, x1)), blkA s 59 #[.slice A l.length c], blkA P3 26 #[.int .i64 x0, .int .i64 x1], rsA (.slice A l.length c) l] W3) := (HX.out.add hb3).pick [0, 1, 4, 5, 2]; have HAB := Lib.hid (And.intro ha0 hb0); clear hb3 ha0 hb0)
        | fail)
    clear HA
    obtain ⟨B, hB⟩ : ∃ B, B = behindF l (x0, x1) := ⟨_, rfl⟩
    have HXA : Hid (∀ k, OkS ((B.take k).foldl putF (putF (aheadF l (x0, x1)) (x0, x1)))) := fun k => by rw [hB]; exact part_ok hok.out HM.out k
    have HOB : Hid (OkS B) := by show OkS B; rw [hB]; exact (behind_ok hok.out).1
    have HADD : Hid (addF l (x0, x1) = B.foldl putF (putF (aheadF l (x0, x1)) (x0, x1))) := by show _ = _; rw [hB]; rfl
    have hMx := HM.out
    simp only [May, en] at hMx
    obtain ⟨hm1, hm2, hm3⟩ := hMx
    obtain ⟨T1, hT1, hJ⟩ := Hv.use [rsA vA (aheadF l (x0, x1))] _ HX.out
    have HT1 := Lib.hid hT1
    have HJ := Lib.hid hJ
    clear hT1 hJ
    have k2 : W3.cell? ⟨P3, 0, none⟩ = some (.int .i64 x0) := (HC.out _ _ _ _ HX.out).2.1
    have k3 : W3.cell? ⟨P3, 1, none⟩ = some (.int .i64 x1) := (HC.out _ _ _ _ HX.out).2.2
    go_wp2_with fail
    refine (put_any (aheadF l (x0, x1)) (x0, x1) _ HT1 (by have := (ahead_ok hok.out (x := (x0, x1))).1.len; omega) (Lib.hid ⟨hm1, hm2, by show x0 + x1 ≤ _; omega⟩) (Lib.hid (fun y hy => by have := (ahead_ok hok.out (x := (x0, x1))).1.val y hy; exact ⟨this.1, by omega, this.2.2⟩))).mono ?_
    rintro e W4 ⟨v4, rfl, h4, h40⟩
    have HV4 : Hid (Hv w T [rsA v4 (putF (aheadF l (x0, x1)) (x0, x1)), rsA vB B, blkA s 59 #[.slice A l.length c], blkA P3 26 #[.int .i64 x0, .int .i64 x1]] W4) := by
      rw [hB]
      exact (HJ.out _ _ h4).drop [rsA _ _, rsA _ _, blkA _ _ _, blkA _ _ _] _
    have H40 : Hid (putF (aheadF l (x0, x1)) (x0, x1) = [] → v4 = .slice none 0 0) := fun e => (h40 e).trans (HAB.out.1 (put_nil_of e))
    obtain ⟨AB, cB, hvB, hAB⟩ := SpArg.of_own (HV4.out.row (i := 1) rfl)
    subst hvB
    have hBl : B.length ≤ 1048576 := HOB.out.len
    have HAR := Lib.hid hAB
    clear hAB h4 h40 HJ HT1 HX k2 k3 HAB HC hB
    clear HM hm1 hm2 hm3
    go_wp2_with fail
    go_loopw [6, 30] (fun u6 i wr => ∃ k : Nat, k ≤ B.length ∧ i = .int .i64 k ∧ Hv w T [rsA u6 ((B.take k).foldl putF (putF (aheadF l (x0, x1)) (x0, x1))), rsA (.slice AB B.length cB) B, blkA s 59 #[.slice A l.length c]] wr ∧ ((B.take k).foldl putF (putF (aheadF l (x0, x1)) (x0, x1)) = [] → u6 = .slice none 0 0)) (fun _ i _ => B.length - (intOf i).toNat)
    case atStart => exact ⟨0, by omega, rfl, HV4.out.drop [rsA _ _, rsA _ _, blkA _ _ _] _, H40.out⟩
    case round =>
      clear HV4 H40 HAR
      obtain ⟨k, hk, rfl, HI, HI0⟩ := hrel
      have HV := Lib.hid HI
      have HZ := Lib.hid HI0
      clear HI HI0
      by_cases hkl : k < B.length
      · obtain ⟨A', c', e, hA'⟩ := SpArg.of_own (HV.out.row (i := 1) rfl)
        injection e with e1 _ e2
        subst e1 e2
        obtain ⟨b, off, rfl, hb, c0, c1⟩ := hA' k hkl
        have hyv := HOB.out.val B[k] (List.getElem_mem hkl)
        have hfold : (B.take (k + 1)).foldl putF (putF (aheadF l (x0, x1)) (x0, x1)) = putF ((B.take k).foldl putF (putF (aheadF l (x0, x1)) (x0, x1))) B[k] := by
          rw [List.take_succ_eq_append_getElem hkl, List.foldl_append]; rfl
        obtain ⟨y, hy⟩ : ∃ y, y = B[k] := ⟨_, rfl⟩
        rw [← hy] at c0 c1 hyv hfold
        clear hy hA'
        obtain ⟨y0, y1⟩ := y
        simp only [en] at hyv
        obtain ⟨hy1, hy2, hy3⟩ := hyv
        have HF := Lib.hid hfold
        clear hfold
        have hOF := HXA.out k
        obtain ⟨F, hF⟩ : ∃ F, F = (B.take k).foldl putF (putF (aheadF l (x0, x1)) (x0, x1)) := ⟨_, rfl⟩
        rw [← hF] at HF HZ HV hOF
        have HOF := Lib.hid hOF
        clear hOF hF
        have HW : Hid (Hv w T [rsA u6 F, rsA (.slice (some ⟨b, off, none⟩) B.length cB) B, blkA s 59 #[.slice A l.length c]] (wr.alloc (.cells #[.int .i64 y0, .int .i64 y1] 26))) := HV.out.alloc_ _
        obtain ⟨T1, hT1, hJ⟩ := Hv.use [rsA u6 F] _ HW.out
        have HT1 := Lib.hid hT1
        have HJ := Lib.hid hJ
        clear hT1 hJ
        go_wp2_with fail
        refine (put_any F (y0, y1) _ HT1 (by have := HOF.out.len; omega) (Lib.hid ⟨hy1, by show 0 ≤ y1; omega, by show y0 + y1 ≤ _; omega⟩) (Lib.hid (fun y hy => by have := HOF.out.val y hy; exact ⟨this.1, by omega, this.2.2⟩))).mono ?_
        rintro e W5 ⟨v5, rfl, h5, h50⟩
        have HV5 := Lib.hid (HJ.out _ _ h5)
        have H50 := Lib.hid (fun e => (h50 e).trans (HZ.out (put_nil_of e)))
        clear h5 h50 HJ HT1 HW c0 c1
        go_wp2
        go_roundw
        case rel => exact ⟨k + 1, by omega, by go_num, by rw [HF.out]; exact HV5.out, by rw [HF.out]; exact H50.out⟩
        case measure => simp [intOf]; omega
      · have hkl2 : B.take k = B := List.take_of_length_le (by omega)
        rw [hkl2] at HV HZ
        have k0 : wr.cell? ⟨s, 0, none⟩ = some (.slice A l.length c) := by simpa using (HV.out.blk (i := 2) rfl).cell 0
        have k4 : wr.frozen? ⟨s, 0, none⟩ = false := (HV.out.blk (i := 2) rfl).frozen 0
        obtain ⟨A6, c6, e6, _⟩ := SpArg.of_own (HV.out.row (i := 0) rfl)
        subst e6
        go_wp2
        go_ret
        refine ⟨rfl, ?_⟩
        rw [HADD.out]
        have h0 : Hv w T (blkA s 59 #[.slice A l.length c] :: [rsA (.slice A6 (B.foldl putF (putF (aheadF l (x0, x1)) (x0, x1))).length c6) (B.foldl putF (putF (aheadF l (x0, x1)) (x0, x1)))]) wr := HV.out.pick [2, 0]
        exact hv_mkSet (h0.set 0 _) HZ.out
  · have HMB := Lib.hid hm
    rw [if_neg hm]
    clear hm
    go_wp2
    go_ret
    exact ⟨rfl, HW2.out.drop [setA _ _] _⟩
end Go.Proofs.Ytelkanfmhfopnaa

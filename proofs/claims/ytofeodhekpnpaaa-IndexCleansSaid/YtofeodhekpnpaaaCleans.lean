/- The walk of IndexCleans. -/
import Derived.Test.YtofeodhekpnpaaaDoes3
import Derived.Test.YtofeodhekpnpaaaFull
import Derived.Test.YtofeodhekpnpaaaCopy
namespace Go.Proofs.Ytofeodhekpnpaaa
open Go.RowKit Go.LawEnd

theorem cleanF_there {l : Pls} {slots : Nat} (hF : Fit slots l) {k : Nat} (hk : k < l.length) : (cleanF l k).1 = (getF l k).2.2 ∧ getF (cleanF l k).2 k = ((getF l k).1, false, (getF l k).2.2) := by
  have hi : ¬ ((k : Int) < 0 ∨ (l.length : Int) ≤ k) := by omega
  have hp := pl_at hk
  have hfit := hF l[k] (List.getElem_mem hk)
  unfold cleanF getF
  rw [if_neg hi, if_neg hi, hp]
  rcases hfit with e | ⟨a, c⟩
  · rw [if_pos e, if_pos e]
    simp only []
    rw [if_neg hi, hp, if_pos e]
    exact ⟨trivial, rfl⟩
  · have hne : l[k] ≠ (-1, false) := fun e => by rw [e] at a; simp at a
    rw [if_neg hne, if_neg hne]
    have hk' : k < (l.set k (l[k].1, false)).length := by simpa using hk
    have hp' := pl_at hk'
    rw [List.getElem_set_self] at hp'
    simp only [Int.toNat_natCast]
    rw [if_neg (by rw [List.length_set]; exact hi), hp', if_neg (fun e => by injection e with e _; omega)]
    exact ⟨trivial, rfl⟩
theorem cleanF_other {l : Pls} {i : Int} {k : Nat} (hne : (k : Int) ≠ i) : getF (cleanF l i).2 k = getF l k := by
  unfold cleanF
  by_cases hi : i < 0 ∨ (l.length : Int) ≤ i
  · rw [if_pos hi]
  · rw [if_neg hi]
    by_cases hn : pl l i = (-1, false)
    · rw [if_pos hn]
    · rw [if_neg hn]
      obtain ⟨j, rfl⟩ : ∃ j : Nat, i = j := ⟨i.toNat, by omega⟩
      have hjk : j ≠ k := fun e => hne (by rw [e])
      have e : pl (l.set j ((pl l j).1, false)) k = pl l k := by simp [pl, List.getElem?_set_ne hjk]
      unfold getF
      simp only [Int.toNat_natCast]
      rw [List.length_set, e]
theorem cleanF_out {l : Pls} {i : Int} (h : i < 0 ∨ (l.length : Int) ≤ i) : (cleanF l i).1 = 10 := by unfold cleanF; rw [if_pos h]

structure C2 (w wr : World) (x : Nat) (g : Rowd) (b x' : Nat) (g' : Rowd) (b' n : Nat) (l l' : Pls) (f f' : Ats) : Prop where
  idx : Idx wr x g b n l f 6
  cpy : Idx wr x' g' b' n l' f' 6
  below : Below w.heap.size w wr
theorem C2.step {w wr w2 : World} {x b x' b' n : Nat} {g g' : Rowd} {l l' : Pls} {f f' : Ats} (h : C2 w wr x g b x' g' b' n l l' f f') (hb : Below wr.heap.size wr w2) : C2 w w2 x g b x' g' b' n l l' f f' :=
  ⟨h.idx.below hb (Nat.le_refl _), h.cpy.below hb (Nat.le_refl _), keep_call h.below hb⟩

set_option maxRecDepth 100000 in
set_option maxHeartbeats 3200000 in
theorem cleans_main (A : Option Addr) (m cp : Nat) (bk : Int) (w : World) (hm : m ≤ 80)
    (hops : Hid (∀ k, k < m → ∃ b off a i s t, A = some ⟨b, off, none⟩ ∧ b < w.heap.size ∧ w.cell? ⟨b, off + k * 4, none⟩ = some (.int .i64 a) ∧ w.cell? ⟨b, off + k * 4 + 1, none⟩ = some (.int .i64 i) ∧ w.cell? ⟨b, off + k * 4 + 2, none⟩ = some (.int .i64 s) ∧ w.cell? ⟨b, off + k * 4 + 3, none⟩ = some (.bool t))) :
    Calls Try.prog 4 #[.slice A m cp, .int .i64 bk] w (Yes w) := by
  go_enter Try.func4, Try.ntmps4
  go_wp2_with fail
  refine (new_yes 12 6 w (by omega) (by omega) (by omega) (by omega)).mono ?_
  rintro e w1 ⟨x, g, b, rfl, hx, hg, hb, hi, hbl⟩
  have HS1 : Hid (St w1 x g b 0 6 12) := ⟨_, _, hi, Ok.start 6 12, by simp⟩
  have HB1 := Lib.hid hbl
  clear hi hbl
  go_wp2_with fail
  go_loopw [7] (fun i wr => ∃ k : Nat, k ≤ m ∧ i = .int .i64 k ∧ St wr x g b k 6 12 ∧ Below w.heap.size w wr) (fun i _ => m - (intOf i).toNat)
  case atStart => exact ⟨0, by omega, rfl, HS1.out, HB1.out⟩
  case round =>
    clear HS1 HB1
    obtain ⟨k, hk, rfl, hst, hbw⟩ := hrel
    have HS := Lib.hid hst
    have HB := Lib.hid hbw
    clear hst hbw
    by_cases hkm : k < m
    · obtain ⟨bo, off, a, i, s, t, rfl, hbl, ha, hi, hs, ht⟩ := hops.out k hkm
      have KEEP : Hid (∀ W : World, Below w.heap.size w W → Below w.heap.size w W ∧ W.cell? ⟨bo, off + k * 4, none⟩ = some (.int .i64 a) ∧ W.cell? ⟨bo, off + k * 4 + 1, none⟩ = some (.int .i64 i) ∧ W.cell? ⟨bo, off + k * 4 + 2, none⟩ = some (.int .i64 s) ∧ W.cell? ⟨bo, off + k * 4 + 3, none⟩ = some (.bool t)) := fun W hW =>
        ⟨hW, (hW.cell (p := ⟨bo, off + k * 4, none⟩) hbl).trans ha, (hW.cell (p := ⟨bo, off + k * 4 + 1, none⟩) hbl).trans hi, (hW.cell (p := ⟨bo, off + k * 4 + 2, none⟩) hbl).trans hs, (hW.cell (p := ⟨bo, off + k * 4 + 3, none⟩) hbl).trans ht⟩
      have HBD : Hid (Below w.heap.size w wr.drew) := Below.drew HB.out
      have HSD : Hid (∃ l f, Idx wr.drew x g b k l f 6 ∧ Ok 6 l f ∧ l.length = 12) := by
        obtain ⟨l, f, h1, h2, h3⟩ := HS.out
        exact ⟨l, f, h1.drew, h2, h3⟩
      obtain ⟨l, f, h1, h2, h3⟩ := HSD.out
      have HID := Lib.hid h1
      have HOK := Lib.hid h2
      have HLL := Lib.hid h3
      clear ha hi hs ht HS HSD h1 h2 h3
      go_wp2_with fail
      go_region_held3 (fun W => Below w.heap.size w W ∧ W.cell? ⟨bo, off + k * 4, none⟩ = some (.int .i64 a) ∧ W.cell? ⟨bo, off + k * 4 + 1, none⟩ = some (.int .i64 i) ∧ W.cell? ⟨bo, off + k * 4 + 2, none⟩ = some (.int .i64 s) ∧ W.cell? ⟨bo, off + k * 4 + 3, none⟩ = some (.bool t))
        (first | exact KEEP.out _ HB4.out | exact KEEP.out _ HB3.out | exact KEEP.out _ HBD.out | assumption | fail)
        (first
          | (go_at_call 12; refine (ref_new 12 6 _ (by decide)).mono ?_; rintro e w3 ⟨r, rfl, hrn⟩; have HRN := Lib.hid hrn; have HB3 := Lib.hid (keep_call HBD.out hrn.below); clear hrn)
          | (go_at_call 11; obtain ⟨vS, vD, hri⟩ := HRN.out.ri; refine (does_any (slots := 6) a i s t (Lib.hid (HID.out.below HRN.out.below (Nat.le_refl _))) HOK.out (by have := HLL.out; omega) (by decide) (by unfold maxLen; omega) (Lib.hid hri) (by decide) HID.out.head.lt HID.out.row.lt HID.out.map.lt HRN.out.below.size).mono ?_; rintro e w4 ⟨v, rfl, hst4, hch4⟩; have HS4 : Hid (St w4 x g b (k + 1) 6 12) := (HLL.out ▸ hst4); have HB4 : Hid (Below w.heap.size w w4) := Ch.after HB3.out hch4 HB3.out.size (fun j e => by have := HBD.out.size; rcases e with rfl | rfl | e <;> first | assumption | omega); clear hst4 hch4 hri)
          | fail)
      all_goals go_wp2
      all_goals go_roundw
      all_goals first
        | exact ⟨k + 1, by omega, by go_num, HS4.out, HB4.out⟩
        | (simp [intOf]; omega)
    · obtain ⟨l, f, h1, h2, h3⟩ := HS.out
      have HI := Lib.hid h1
      have HOK := Lib.hid h2
      have HLL := Lib.hid h3
      clear HS h1 h2 h3
      go_wp2_with fail
      refine (copy_any HI (by have := HLL.out; omega)).mono ?_
      rintro e w2 ⟨x', g', b', rfl, hc2, hx2, hg2, hb2, hbl2⟩
      have HC2 : Hid (C2 w w2 x g b x' g' b' k l l f f) := ⟨HI.out.below hbl2 (Nat.le_refl _), hc2, keep_call HB.out hbl2⟩
      have HD : Hid (x ≠ x' ∧ x ≠ g'.g ∧ x ≠ b' ∧ g.g ≠ g'.g ∧ g.g ≠ x' ∧ g.g ≠ b' ∧ b ≠ x' ∧ b ≠ g'.g ∧ b ≠ b') := by
        have h1 := HI.out.head.lt
        have h2 := HI.out.row.lt
        have h3 := HI.out.map.lt
        refine ⟨?_, ?_, ?_, ?_, ?_, ?_, ?_, ?_, ?_⟩ <;> omega
      have HW : Hid (w.heap.size ≤ x' ∧ w.heap.size ≤ g'.g ∧ w.heap.size ≤ b') := by
        have := HB.out.size
        exact ⟨by omega, by omega, by omega⟩
      clear hc2 hx2 hg2 hb2 hbl2 HB HI
      go_wp2_with fail
      refine (clean_full bk (Lib.hid HC2.out.cpy) HOK.out.fit).mono ?_
      rintro e w3 ⟨rfl, hc3, hch3⟩
      have HC3 : Hid (C2 w w3 x g b x' g' b' k l (cleanF l bk).2 f f) := by
        refine ⟨HC2.out.idx.ch hch3 ?_ ?_ ?_, hc3, HC2.out.below.trans (hch3.below HC2.out.below.size ?_)⟩
        · rintro (e | e); exact HD.out.2.1 e; exact HD.out.2.2.1 e
        · rintro (e | e); exact HD.out.2.2.2.1 e; exact HD.out.2.2.2.2.2.1 e
        · rintro (e | e); exact HD.out.2.2.2.2.2.2.2.1 e; exact HD.out.2.2.2.2.2.2.2.2 e
        · rintro j hj (e | e)
          · have := HW.out.2.1; omega
          · have := HW.out.2.2; omega
      have HFit : Hid (Fit 6 (cleanF l bk).2) := (HOK.out.cleanF_ bk).1.fit
      obtain ⟨e1, he1⟩ : ∃ y, (cleanF l bk).1 = y := ⟨_, rfl⟩
      obtain ⟨l', hl'⟩ : ∃ y, (cleanF l bk).2 = y := ⟨_, rfl⟩
      rw [he1]
      rw [hl'] at HC3 HFit
      have HE1 := Lib.hid he1
      have HL' := Lib.hid hl'
      clear hc3 hch3 HC2 he1 hl' HD HW
      go_wp2_with fail
      go_loopw [10] (fun i wr => ∃ k2 : Nat, k2 ≤ 12 ∧ i = .int .i64 k2 ∧ C2 w wr x g b x' g' b' k l l' f f) (fun i _ => 12 - (intOf i).toNat)
      case atStart => exact ⟨0, by omega, rfl, HC3.out⟩
      case round =>
        clear HC3
        obtain ⟨k2, hk2, rfl, hr⟩ := hrel
        have HJ := Lib.hid hr
        clear hr
        by_cases hk12 : k2 < 12
        · have hkl : k2 < l.length := by have := HLL.out; omega
          go_wp2_with fail
          refine (get_full (k2 : Int) (Lib.hid HJ.out.idx) HOK.out.fit).mono ?_
          rintro e w5 ⟨rfl, hb5⟩
          obtain ⟨p1, hp1⟩ : ∃ y, (getF l k2).1 = y := ⟨_, rfl⟩
          obtain ⟨p2, hp2⟩ : ∃ y, (getF l k2).2.1 = y := ⟨_, rfl⟩
          obtain ⟨p3, hp3⟩ : ∃ y, (getF l k2).2.2 = y := ⟨_, rfl⟩
          rw [hp1, hp2, hp3]
          have HP : Hid ((getF l k2).1 = p1 ∧ (getF l k2).2.1 = p2 ∧ (getF l k2).2.2 = p3) := ⟨hp1, hp2, hp3⟩
          clear hp1 hp2 hp3
          go_wp2_with fail
          obtain ⟨P1, hP1⟩ : ∃ y, y = w5.heap.size := ⟨_, rfl⟩
          obtain ⟨V, hV⟩ : ∃ y, y = w5.alloc (.cells #[.int .i64 p1, .bool p2] 35) := ⟨_, rfl⟩
          rw [← hV, ← hP1]
          have hA := hb5.alloc hb5.size (.cells #[.int .i64 p1, .bool p2] 35)
          rw [← hV] at hA
          have HBX : Hid (Blk V P1 35 #[.int .i64 p1, .bool p2]) := by rw [hV, hP1]; exact Blk.new _ _ _
          have HJ2 := Lib.hid (HJ.out.step hA)
          have HP1 : Hid (w.heap.size ≤ P1) := by have h1 := HJ.out.below.size; have h2 := hb5.size; show _ ≤ _; omega
          have HAP : Hid (g.g ≠ P1 ∧ g'.g ≠ P1) := by
            have h1 := HJ.out.idx.row.lt
            have h2 := HJ.out.cpy.row.lt
            have h3 := hb5.size
            refine ⟨?_, ?_⟩ <;> omega
          clear hA hV hP1 hb5 HJ
          refine (get_full (k2 : Int) (Lib.hid HJ2.out.cpy) HFit.out).mono ?_
          rintro e w6 ⟨rfl, hb6⟩
          obtain ⟨q1, hq1⟩ : ∃ y, (getF l' k2).1 = y := ⟨_, rfl⟩
          obtain ⟨q2, hq2⟩ : ∃ y, (getF l' k2).2.1 = y := ⟨_, rfl⟩
          obtain ⟨q3, hq3⟩ : ∃ y, (getF l' k2).2.2 = y := ⟨_, rfl⟩
          rw [hq1, hq2, hq3]
          have HQ : Hid ((getF l' k2).1 = q1 ∧ (getF l' k2).2.1 = q2 ∧ (getF l' k2).2.2 = q3) := ⟨hq1, hq2, hq3⟩
          have hbx := HBX.out.below hb6 HBX.out.lt
          have HBX6 := Lib.hid hbx
          have HJ6 := Lib.hid (HJ2.out.step hb6)
          clear hq1 hq2 hq3 hbx HBX hb6 HJ2
          go_upto_region 17 with (fail)
          obtain ⟨P2, hP2⟩ : ∃ y, y = w6.heap.size := ⟨_, rfl⟩
          obtain ⟨V2, hV2⟩ : ∃ y, y = w6.alloc (.cells #[.int .i64 q1, .bool q2] 35) := ⟨_, rfl⟩
          rw [← hV2, ← hP2]
          have hA := (Below.refl w6.heap.size w6).alloc (Nat.le_refl _) (.cells #[.int .i64 q1, .bool q2] 35)
          rw [← hV2] at hA
          have HBY : Hid (Blk V2 P2 35 #[.int .i64 q1, .bool q2]) := by rw [hV2, hP2]; exact Blk.new _ _ _
          have HBX7 := Lib.hid (HBX6.out.below hA HBX6.out.lt)
          have HJ7 := Lib.hid (HJ6.out.step hA)
          have hne : P1 ≠ P2 := by have := HBX6.out.lt; omega
          have HNE := Lib.hid hne
          clear hA hV2 hP2 HBX6 HJ6 hne
          by_cases hbk : (k2 : Int) = bk
          · have hz := cleanF_there HOK.out.fit hkl
            rw [hbk, HE1.out, HL'.out] at hz
            have hee : e1 = p3 := by rw [← HP.out.2.2, hz.1, hbk]
            have h1 : q1 = p1 := by rw [← HQ.out.1, ← HP.out.1, hbk, hz.2]
            have h2 : q2 = false := by rw [← HQ.out.2.1, hbk, hz.2]
            have h3 : q3 = p3 := by rw [← HQ.out.2.2, ← HP.out.2.2, hbk, hz.2]
            subst hee h1 h2 h3
            have c0 : (V2.setCell ⟨P1, 1, none⟩ (.bool false)).cell? ⟨P1, 0, none⟩ = some (.int .i64 q1) := by have h := (HBX7.out.set_ 1 (.bool false)).cell 0; simpa using h
            have c1 : (V2.setCell ⟨P1, 1, none⟩ (.bool false)).cell? ⟨P1, 1, none⟩ = some (.bool false) := by have h := (HBX7.out.set_ 1 (.bool false)).cell 1; simpa using h
            have d0 : (V2.setCell ⟨P1, 1, none⟩ (.bool false)).cell? ⟨P2, 0, none⟩ = some (.int .i64 q1) := by have h := (HBY.out.far (p := ⟨P1, 1, none⟩) (Ne.symm HNE.out) (.bool false)).cell 0; simpa using h
            have d1 : (V2.setCell ⟨P1, 1, none⟩ (.bool false)).cell? ⟨P2, 1, none⟩ = some (.bool false) := by have h := (HBY.out.far (p := ⟨P1, 1, none⟩) (Ne.symm HNE.out) (.bool false)).cell 1; simpa using h
            have v1 : V2.cell? ⟨P1, 1, none⟩ = some (.bool p2) := by have h := HBX7.out.cell 1; simpa using h
            have vf : V2.frozen? ⟨P1, 1, none⟩ = false := HBX7.out.frozen 1
            have HJ8 : Hid (C2 w (V2.setCell ⟨P1, 1, none⟩ (.bool false)) x g b x' g' b' k l l' f f) := by
              have hc : Ch (fun j => j = P1) V2 (V2.setCell ⟨P1, 1, none⟩ (.bool false)) := (Ch.refl (fun j => j = P1) V2).setCell (p := ⟨P1, 1, none⟩) (.inl rfl) _
              have t1 : x ≠ P1 := Blk.ne_ HJ7.out.idx.head HBX7.out (by decide)
              have t2 : x' ≠ P1 := Blk.ne_ HJ7.out.cpy.head HBX7.out (by decide)
              have u1 : g.g ≠ P1 := fun e => HAP.out.1 e
              have u2 : g'.g ≠ P1 := fun e => HAP.out.2 e
              have s1 : b ≠ P1 := fun e => HJ7.out.idx.map.ne_blk HBX7.out e.symm
              have s2 : b' ≠ P1 := fun e => HJ7.out.cpy.map.ne_blk HBX7.out e.symm
              exact ⟨HJ7.out.idx.ch hc t1 u1 s1, HJ7.out.cpy.ch hc t2 u2 s2, HJ7.out.below.setCell (p := ⟨P1, 1, none⟩) HP1.out _⟩
            have HBK := Lib.hid hbk
            subst hbk
            clear hz
            go_wp2
            go_roundw
            case rel => exact ⟨k2 + 1, by omega, by go_num, HJ8.out⟩
            case measure => simp [intOf]; omega
          · have hz := cleanF_other (l := l) hbk
            rw [HL'.out] at hz
            have h1 : q1 = p1 := by rw [← HQ.out.1, ← HP.out.1, hz]
            have h2 : q2 = p2 := by rw [← HQ.out.2.1, ← HP.out.2.1, hz]
            have h3 : q3 = p3 := by rw [← HQ.out.2.2, ← HP.out.2.2, hz]
            subst h1 h2 h3
            have c0 : V2.cell? ⟨P1, 0, none⟩ = some (.int .i64 q1) := by have h := HBX7.out.cell 0; simpa using h
            have c1 : V2.cell? ⟨P1, 1, none⟩ = some (.bool q2) := by have h := HBX7.out.cell 1; simpa using h
            have d0 : V2.cell? ⟨P2, 0, none⟩ = some (.int .i64 q1) := by have h := HBY.out.cell 0; simpa using h
            have d1 : V2.cell? ⟨P2, 1, none⟩ = some (.bool q2) := by have h := HBY.out.cell 1; simpa using h
            have hbe : ((k2 : Int) == bk) = false := by rw [beq_eq_false_iff_ne]; exact hbk
            clear hz hbk
            go_wp2
            go_roundw
            case rel => exact ⟨k2 + 1, by omega, by go_num, HJ7.out⟩
            case measure => simp [intOf]; omega
        · clear hk2
          by_cases hin : 0 ≤ bk ∧ bk < 12
          · obtain ⟨hi0, hi1⟩ := hin
            go_wp2_with fail
            refine (awake_any _).mono ?_
            rintro e w8 ⟨rfl, hb8⟩
            have HB8 := Lib.hid (keep_call HJ.out.below hb8)
            clear hb8
            go_wp2
            go_ret
            exact ⟨rfl, HB8.out⟩
          · have h10 : e1 = 10 := by rw [← HE1.out]; exact cleanF_out (by have := HLL.out; omega)
            subst h10
            by_cases hi0 : bk < 0
            · clear hin
              go_wp2_with fail
              refine (awake_any _).mono ?_
              rintro e w8 ⟨rfl, hb8⟩
              have HB8 := Lib.hid (keep_call HJ.out.below hb8)
              clear hb8
              go_wp2
              go_ret
              exact ⟨rfl, HB8.out⟩
            · have hi1 : 12 ≤ bk := by omega
              clear hin
              go_wp2_with fail
              refine (awake_any _).mono ?_
              rintro e w8 ⟨rfl, hb8⟩
              have HB8 := Lib.hid (keep_call HJ.out.below hb8)
              clear hb8
              go_wp2
              go_ret
              exact ⟨rfl, HB8.out⟩
end Go.Proofs.Ytofeodhekpnpaaa

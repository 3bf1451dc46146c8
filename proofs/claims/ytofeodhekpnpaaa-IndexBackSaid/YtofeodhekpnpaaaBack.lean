/- The walk of IndexBack. -/
import Derived.Test.YtofeodhekpnpaaaDoes3
import Derived.Test.YtofeodhekpnpaaaBackLaw
import Derived.Test.YtofeodhekpnpaaaCopy
namespace Go.Proofs.Ytofeodhekpnpaaa
open Go.RowKit Go.LawEnd

structure B2 (w wr : World) (x : Nat) (g : Rowd) (b n x' : Nat) (g' : Rowd) (b' n' : Nat) (l l' : Pls) (f f' : Ats) : Prop where
  idx : Idx wr x g b n l f 6
  cpy : Idx wr x' g' b' n' l' f' 6
  below : Below w.heap.size w wr
  fx : x ≠ g'.g ∧ x ≠ b' ∧ g.g ≠ g'.g ∧ g.g ≠ b' ∧ b ≠ g'.g ∧ b ≠ b'
  old : w.heap.size ≤ g'.g ∧ w.heap.size ≤ b'
section
variable {w wr w2 : World} {x b n x' b' n' n2 : Nat} {g g' : Rowd} {l l' l2 : Pls} {f f' f2 : Ats}
theorem B2.step (h : B2 w wr x g b n x' g' b' n' l l' f f') (hb : Below wr.heap.size wr w2) : B2 w w2 x g b n x' g' b' n' l l' f f' :=
  ⟨h.idx.below hb (Nat.le_refl _), h.cpy.below hb (Nat.le_refl _), keep_call h.below hb, h.fx, h.old⟩
theorem B2.turn (h : B2 w wr x g b n x' g' b' n' l l' f f') (hi : Idx w2 x' g' b' n2 l2 f2 6) (hc : Ch (fun j => j = g'.g ∨ j = b') wr w2) : B2 w w2 x g b n x' g' b' n2 l l2 f f2 := by
  obtain ⟨f1, f2', f3, f4, f5, f6⟩ := h.fx
  refine ⟨h.idx.ch hc ?_ ?_ ?_, hi, h.below.trans (hc.below h.below.size ?_), h.fx, h.old⟩
  · rintro (e | e); exact f1 e; exact f2' e
  · rintro (e | e); exact f3 e; exact f4 e
  · rintro (e | e); exact f5 e; exact f6 e
  · rintro j hj (e | e)
    · have := h.old.1; omega
    · have := h.old.2; omega
end
/-- what is there of the call's own: the other call, told -/
theorem ocell {w0 W : World} {P0 : Nat} {a i s : Int} {d : Bool} (hb : Below w0.heap.size w0 W) (hk : Blk w0 P0 32 #[.int .i64 a, .int .i64 i, .int .i64 s, .bool d]) :
    W.cell? ⟨P0, 1, none⟩ = some (.int .i64 i) ∧ W.cell? ⟨P0, 2, none⟩ = some (.int .i64 s) ∧ W.cell? ⟨P0, 3, none⟩ = some (.bool d) := by
  have h := hk.below hb hk.lt
  exact ⟨by simpa using h.cell 1, by simpa using h.cell 2, by simpa using h.cell 3⟩

set_option maxRecDepth 100000 in
set_option maxHeartbeats 6400000 in
theorem back_main (A : Option Addr) (m cp : Nat) (oa oi os : Int) (od : Bool) (w : World) (hm : m ≤ 80)
    (hops0 : Hid (∀ k, k < m → ∃ b off a i s t, A = some ⟨b, off, none⟩ ∧ b < w.heap.size ∧ w.cell? ⟨b, off + k * 4, none⟩ = some (.int .i64 a) ∧ w.cell? ⟨b, off + k * 4 + 1, none⟩ = some (.int .i64 i) ∧ w.cell? ⟨b, off + k * 4 + 2, none⟩ = some (.int .i64 s) ∧ w.cell? ⟨b, off + k * 4 + 3, none⟩ = some (.bool t))) :
    Calls Try.prog 6 #[.slice A m cp, .agg #[.int .i64 oa, .int .i64 oi, .int .i64 os, .bool od]] w (Yes w) := by
  go_enter Try.func6, Try.ntmps6
  go_wp2_with fail
  obtain ⟨P0, hP0⟩ : ∃ y, y = w.heap.size := ⟨_, rfl⟩
  obtain ⟨w0, hw0⟩ : ∃ y, y = w.alloc (.cells #[.int .i64 oa, .int .i64 oi, .int .i64 os, .bool od] 32) := ⟨_, rfl⟩
  rw [← hw0, ← hP0]
  have HO : Hid (Blk w0 P0 32 #[.int .i64 oa, .int .i64 oi, .int .i64 os, .bool od]) := by rw [hw0, hP0]; exact Blk.new _ _ _
  have HB0 : Hid (Below w.heap.size w w0) := by rw [hw0]; exact (Below.refl _ w).alloc (Nat.le_refl _) _
  have hops : Hid (∀ k, k < m → ∃ b off a i s t, A = some ⟨b, off, none⟩ ∧ b < w0.heap.size ∧ w0.cell? ⟨b, off + k * 4, none⟩ = some (.int .i64 a) ∧ w0.cell? ⟨b, off + k * 4 + 1, none⟩ = some (.int .i64 i) ∧ w0.cell? ⟨b, off + k * 4 + 2, none⟩ = some (.int .i64 s) ∧ w0.cell? ⟨b, off + k * 4 + 3, none⟩ = some (.bool t)) := by
    intro k hk
    obtain ⟨b, off, a, i, s, t, e, hb, c0, c1, c2, c3⟩ := hops0.out k hk
    have hz := HB0.out.size
    exact ⟨b, off, a, i, s, t, e, by omega, (HB0.out.cell (p := ⟨b, off + k * 4, none⟩) hb).trans c0, (HB0.out.cell (p := ⟨b, off + k * 4 + 1, none⟩) hb).trans c1, (HB0.out.cell (p := ⟨b, off + k * 4 + 2, none⟩) hb).trans c2, (HB0.out.cell (p := ⟨b, off + k * 4 + 3, none⟩) hb).trans c3⟩
  clear hw0 hP0 hops0
  refine (new_yes 12 6 w0 (by omega) (by omega) (by omega) (by omega)).mono ?_
  rintro e w1 ⟨x, g, b, rfl, hx, hg, hb, hi, hbl⟩
  have HS1 : Hid (St w1 x g b 0 6 12) := ⟨_, _, hi, Ok.start 6 12, by simp⟩
  have HB1 := Lib.hid hbl
  clear hi hbl
  go_wp2_with fail
  go_loopw [7] (fun i wr => ∃ k : Nat, k ≤ m ∧ i = .int .i64 k ∧ St wr x g b k 6 12 ∧ Below w0.heap.size w0 wr) (fun i _ => m - (intOf i).toNat)
  case atStart => exact ⟨0, by omega, rfl, HS1.out, HB1.out⟩
  case round =>
    clear HS1 HB1
    obtain ⟨k, hk, rfl, hst, hbw⟩ := hrel
    have HS := Lib.hid hst
    have HB := Lib.hid hbw
    clear hst hbw
    by_cases hkm : k < m
    · obtain ⟨bo, off, a, i, s, t, rfl, hbl, ha, hi, hs, ht⟩ := hops.out k hkm
      have KEEP : Hid (∀ W : World, Below w0.heap.size w0 W → Below w0.heap.size w0 W ∧ W.cell? ⟨bo, off + k * 4, none⟩ = some (.int .i64 a) ∧ W.cell? ⟨bo, off + k * 4 + 1, none⟩ = some (.int .i64 i) ∧ W.cell? ⟨bo, off + k * 4 + 2, none⟩ = some (.int .i64 s) ∧ W.cell? ⟨bo, off + k * 4 + 3, none⟩ = some (.bool t)) := fun W hW =>
        ⟨hW, (hW.cell (p := ⟨bo, off + k * 4, none⟩) hbl).trans ha, (hW.cell (p := ⟨bo, off + k * 4 + 1, none⟩) hbl).trans hi, (hW.cell (p := ⟨bo, off + k * 4 + 2, none⟩) hbl).trans hs, (hW.cell (p := ⟨bo, off + k * 4 + 3, none⟩) hbl).trans ht⟩
      have HBD : Hid (Below w0.heap.size w0 wr.drew) := Below.drew HB.out
      have HSD : Hid (∃ l f, Idx wr.drew x g b k l f 6 ∧ Ok 6 l f ∧ l.length = 12) := by
        obtain ⟨l, f, h1, h2, h3⟩ := HS.out
        exact ⟨l, f, h1.drew, h2, h3⟩
      obtain ⟨l, f, h1, h2, h3⟩ := HSD.out
      have HID := Lib.hid h1
      have HOK := Lib.hid h2
      have HLL := Lib.hid h3
      clear ha hi hs ht HS HSD h1 h2 h3
      go_wp2_with fail
      go_region_held3 (fun W => Below w0.heap.size w0 W ∧ W.cell? ⟨bo, off + k * 4, none⟩ = some (.int .i64 a) ∧ W.cell? ⟨bo, off + k * 4 + 1, none⟩ = some (.int .i64 i) ∧ W.cell? ⟨bo, off + k * 4 + 2, none⟩ = some (.int .i64 s) ∧ W.cell? ⟨bo, off + k * 4 + 3, none⟩ = some (.bool t))
        (first | exact KEEP.out _ HB4.out | exact KEEP.out _ HB3.out | exact KEEP.out _ HBD.out | assumption | fail)
        (first
          | (go_at_call 12; refine (ref_new 12 6 _ (by decide)).mono ?_; rintro e w3 ⟨r, rfl, hrn⟩; have HRN := Lib.hid hrn; have HB3 := Lib.hid (keep_call HBD.out hrn.below); clear hrn)
          | (go_at_call 11; obtain ⟨vS, vD, hri⟩ := HRN.out.ri; refine (does_any (slots := 6) a i s t (Lib.hid (HID.out.below HRN.out.below (Nat.le_refl _))) HOK.out (by have := HLL.out; omega) (by decide) (by unfold maxLen; omega) (Lib.hid hri) (by decide) HID.out.head.lt HID.out.row.lt HID.out.map.lt HRN.out.below.size).mono ?_; rintro e w4 ⟨v, rfl, hst4, hch4⟩; have HS4 : Hid (St w4 x g b (k + 1) 6 12) := (HLL.out ▸ hst4); have HB4 : Hid (Below w0.heap.size w0 w4) := Ch.after HB3.out hch4 HB3.out.size (fun j e => by have := HBD.out.size; rcases e with rfl | rfl | e <;> first | assumption | omega); clear hst4 hch4 hri)
          | fail)
      all_goals go_wp2
      all_goals go_roundw
      all_goals first
        | exact ⟨k + 1, by omega, by go_num, HS4.out, HB4.out⟩
        | (simp [intOf]; omega)
    · obtain ⟨l, f, h1, h2, h3⟩ := HS.out
      have HI := Lib.hid h1
      have HOK := Lib.hid h2
      have HLL := Lib.hid h3
      clear HS h1 h2 h3
      go_wp2_with fail
      refine (copy_any HI (by have := HLL.out; omega)).mono ?_
      rintro e w2 ⟨x', g', b', rfl, hc2, hx2, hg2, hb2, hbl2⟩
      have HC2 : Hid (B2 w0 w2 x g b k x' g' b' k l l f f) := by
        have h1 := HI.out.head.lt
        have h2 := HI.out.row.lt
        have h3 := HI.out.map.lt
        have h4 := HB.out.size
        refine ⟨HI.out.below hbl2 (Nat.le_refl _), hc2, keep_call HB.out hbl2, ⟨?_, ?_, ?_, ?_, ?_, ?_⟩, ?_, ?_⟩ <;> omega
      clear hc2 hx2 hg2 hb2 hbl2 HB HI
      obtain ⟨o1, o2, o3⟩ := ocell HC2.out.below HO.out
      go_wp2_with fail
      refine (put_full oi os od (Lib.hid HC2.out.cpy) HOK.out.fit (by have := HLL.out; omega) (by decide) (by unfold maxLen; omega)).mono ?_
      rintro e w3 ⟨rfl, hc3, hch3⟩
      have HC3 := Lib.hid (HC2.out.turn hc3 hch3)
      have HOK1 := Lib.hid (HOK.out.putF_ oi os od)
      have HERR := Lib.hid (fun h => putF_err (slots := 6) (l := l) (f := f) (i := oi) (s := os) (d := od) h)
      have HGET := Lib.hid (fun h => put_get (slots := 6) (l := l) (f := f) (i := oi) (s := os) (d := od) h)
      have HDRP := Lib.hid (fun h => put_drop (f := f) (i := oi) (s := os) (d := od) HOK.out.fit h)
      have HPUT := Lib.hid (fun h => put_put (f := f) (i := oi) (s := os) (d := od) HOK.out.fit h)
      obtain ⟨l1, hl1⟩ : ∃ y, (putF 6 l f oi os od).2.1 = y := ⟨_, rfl⟩
      obtain ⟨f1, hf1⟩ : ∃ y, (putF 6 l f oi os od).2.2 = y := ⟨_, rfl⟩
      obtain ⟨r1, hr1⟩ : ∃ y, (putF 6 l f oi os od).1.1 = y := ⟨_, rfl⟩
      obtain ⟨r2, hr2⟩ : ∃ y, (putF 6 l f oi os od).1.2.1 = y := ⟨_, rfl⟩
      obtain ⟨r3, hr3⟩ : ∃ y, (putF 6 l f oi os od).1.2.2 = y := ⟨_, rfl⟩
      rw [hl1, hf1] at HC3 HOK1 HDRP HPUT
      rw [hl1] at HERR HGET
      rw [hr3] at HERR HGET HDRP HPUT
      rw [hr1] at HDRP HPUT
      rw [hr2] at HPUT
      rw [hr1, hr2, hr3]
      clear hc3 hch3 HC2 o1 o2 o3 hl1 hf1 hr1 hr2 hr3
      by_cases he : r3 = 0
      · have HG := Lib.hid (HGET.out he)
        have HD := Lib.hid (HDRP.out he)
        have HPT := Lib.hid (HPUT.out he)
        subst he
        clear HERR HGET HDRP HPUT
        go_upto_region 13 with (fail)
        obtain ⟨P9, hP9⟩ : ∃ y, y = w3.heap.size := ⟨_, rfl⟩
        obtain ⟨V, hV⟩ : ∃ y, y = w3.alloc (.cells #[.int .i64 r1, .bool r2] 35) := ⟨_, rfl⟩
        rw [← hV, ← hP9]
        have hA := (Below.refl w3.heap.size w3).alloc (Nat.le_refl _) (.cells #[.int .i64 r1, .bool r2] 35)
        rw [← hV] at hA
        have HBX : Hid (Blk V P9 35 #[.int .i64 r1, .bool r2]) := by rw [hV, hP9]; exact Blk.new _ _ _
        have HC4 := Lib.hid (HC3.out.step hA)
        clear hA hV hP9 HC3
        obtain ⟨o1, o2, o3⟩ := ocell HC4.out.below HO.out
        go_wp2_with fail
        refine (get_full oi (Lib.hid HC4.out.cpy) HOK1.out.1.fit).mono ?_
        rintro e w4 ⟨rfl, hb4⟩
        rw [HG.out]
        have hbx := HBX.out.below hb4 HBX.out.lt
        have HBX4 := Lib.hid hbx
        have HC5 := Lib.hid (HC4.out.step hb4)
        clear hbx HBX hb4 HC4 o1 o2 o3
        go_upto_region 14 with (fail)
        obtain ⟨P11, hP11⟩ : ∃ y, y = w4.heap.size := ⟨_, rfl⟩
        obtain ⟨V2, hV2⟩ : ∃ y, y = w4.alloc (.cells #[.int .i64 os, .bool od] 35) := ⟨_, rfl⟩
        rw [← hV2, ← hP11]
        have hA := (Below.refl w4.heap.size w4).alloc (Nat.le_refl _) (.cells #[.int .i64 os, .bool od] 35)
        rw [← hV2] at hA
        have HBY : Hid (Blk V2 P11 35 #[.int .i64 os, .bool od]) := by rw [hV2, hP11]; exact Blk.new _ _ _
        have HBX5 := Lib.hid (HBX4.out.below hA HBX4.out.lt)
        have HC6 := Lib.hid (HC5.out.step hA)
        clear hA hV2 hP11 HBX4 HC5
        obtain ⟨o1, o2, o3⟩ := ocell HC6.out.below HO.out
        have c0 : V2.cell? ⟨P9, 0, none⟩ = some (.int .i64 r1) := by have h := HBX5.out.cell 0; simpa using h
        have c1 : V2.cell? ⟨P9, 1, none⟩ = some (.bool r2) := by have h := HBX5.out.cell 1; simpa using h
        have d0 : V2.cell? ⟨P11, 0, none⟩ = some (.int .i64 os) := by have h := HBY.out.cell 0; simpa using h
        have d1 : V2.cell? ⟨P11, 1, none⟩ = some (.bool od) := by have h := HBY.out.cell 1; simpa using h
        by_cases ho : r1 = -1
        · have HDO := Lib.hid (HD.out ho)
          subst ho
          clear HD HPT
          go_wp2_with fail
          refine (drop_full oi (Lib.hid HC6.out.cpy) HOK1.out.1.fit (by decide)).mono ?_
          rintro e w7 ⟨rfl, hc7, hch7⟩
          have HC : Hid (∃ n' f', B2 w0 w7 x g b k x' g' b' n' l l f f') := by
            have h := HC6.out.turn hc7 hch7
            rw [HDO.out.2] at h
            exact ⟨_, _, h⟩
          rw [HDO.out.1]
          clear hc7 hch7 HC6 o1 o2 o3 c0 c1 d0 d1 HBX5 HBY
          go_wp2_with fail
          go_loopw [14] (fun i wr => ∃ k2 : Nat, k2 ≤ 12 ∧ i = .int .i64 k2 ∧ ∃ n' f', B2 w0 wr x g b k x' g' b' n' l l f f') (fun i _ => 12 - (intOf i).toNat)
          case atStart => exact ⟨0, by omega, rfl, HC.out⟩
          case round =>
            clear HC
            obtain ⟨k2, hk2, rfl, n2, f2, hr⟩ := hrel
            have HJ := Lib.hid hr
            clear hr
            by_cases hk12 : k2 < 12
            · have hkl : k2 < l.length := by have := HLL.out; omega
              go_wp2_with fail
              refine (get_full (k2 : Int) (Lib.hid HJ.out.idx) HOK.out.fit).mono ?_
              rintro e w5 ⟨rfl, hb5⟩
              obtain ⟨p1, hp1⟩ : ∃ y, (getF l k2).1 = y := ⟨_, rfl⟩
              obtain ⟨p2, hp2⟩ : ∃ y, (getF l k2).2.1 = y := ⟨_, rfl⟩
              obtain ⟨p3, hp3⟩ : ∃ y, (getF l k2).2.2 = y := ⟨_, rfl⟩
              rw [hp1, hp2, hp3]
              have HP : Hid ((getF l k2).1 = p1 ∧ (getF l k2).2.1 = p2 ∧ (getF l k2).2.2 = p3) := ⟨hp1, hp2, hp3⟩
              clear hp1 hp2 hp3
              go_wp2_with fail
              obtain ⟨P1, hP1⟩ : ∃ y, y = w5.heap.size := ⟨_, rfl⟩
              obtain ⟨V, hV⟩ : ∃ y, y = w5.alloc (.cells #[.int .i64 p1, .bool p2] 35) := ⟨_, rfl⟩
              rw [← hV, ← hP1]
              have hA := hb5.alloc hb5.size (.cells #[.int .i64 p1, .bool p2] 35)
              rw [← hV] at hA
              have HBX : Hid (Blk V P1 35 #[.int .i64 p1, .bool p2]) := by rw [hV, hP1]; exact Blk.new _ _ _
              have HJ2 := Lib.hid (HJ.out.step hA)
              clear hA hV hP1 hb5 HJ
              refine (get_full (k2 : Int) (Lib.hid HJ2.out.cpy) HOK.out.fit).mono ?_
              rintro e w6 ⟨rfl, hb6⟩
              rw [HP.out.1, HP.out.2.1, HP.out.2.2]
              have hbx := HBX.out.below hb6 HBX.out.lt
              have HBX6 := Lib.hid hbx
              have HJ6 := Lib.hid (HJ2.out.step hb6)
              clear hbx HBX hb6 HJ2
              go_upto_region 27 with (fail)
              obtain ⟨P2, hP2⟩ : ∃ y, y = w6.heap.size := ⟨_, rfl⟩
              obtain ⟨V2, hV2⟩ : ∃ y, y = w6.alloc (.cells #[.int .i64 p1, .bool p2] 35) := ⟨_, rfl⟩
              rw [← hV2, ← hP2]
              have hA := (Below.refl w6.heap.size w6).alloc (Nat.le_refl _) (.cells #[.int .i64 p1, .bool p2] 35)
              rw [← hV2] at hA
              have HBY : Hid (Blk V2 P2 35 #[.int .i64 p1, .bool p2]) := by rw [hV2, hP2]; exact Blk.new _ _ _
              have HBX7 := Lib.hid (HBX6.out.below hA HBX6.out.lt)
              have HJ7 := Lib.hid (HJ6.out.step hA)
              clear hA hV2 hP2 HBX6 HJ6
              have c0 : V2.cell? ⟨P1, 0, none⟩ = some (.int .i64 p1) := by have h := HBX7.out.cell 0; simpa using h
              have c1 : V2.cell? ⟨P1, 1, none⟩ = some (.bool p2) := by have h := HBX7.out.cell 1; simpa using h
              have d0 : V2.cell? ⟨P2, 0, none⟩ = some (.int .i64 p1) := by have h := HBY.out.cell 0; simpa using h
              have d1 : V2.cell? ⟨P2, 1, none⟩ = some (.bool p2) := by have h := HBY.out.cell 1; simpa using h
              go_wp2
              go_roundw
              case rel => exact ⟨k2 + 1, by omega, by go_num, n2, f2, HJ7.out⟩
              case measure => simp [intOf]; omega
            · clear hk2
              go_wp2_with fail
              refine (len_any (Lib.hid HJ.out.cpy) (by have := HLL.out; omega) HOK.out.fit).mono ?_
              rintro e w6 ⟨rfl, hb6⟩
              have HJ6 := Lib.hid (HJ.out.step hb6)
              obtain ⟨c1, hc1⟩ : ∃ c, (l.filter some_).length = c := ⟨_, rfl⟩
              rw [hc1]
              have HC1 := Lib.hid hc1
              clear hb6 HJ hc1
              go_wp2_with fail
              refine (len_any (Lib.hid HJ6.out.idx) (by have := HLL.out; omega) HOK.out.fit).mono ?_
              rintro e w7 ⟨rfl, hb7⟩
              rw [HC1.out]
              have HJ7 := Lib.hid (HJ6.out.step hb7)
              clear hb7 HJ6
              go_wp2_with fail
              refine (dirty_any (Lib.hid HJ7.out.cpy) (by have := HLL.out; omega)).mono ?_
              rintro e w8 ⟨rfl, hb8⟩
              have HJ8 := Lib.hid (HJ7.out.step hb8)
              obtain ⟨c2, hc2⟩ : ∃ c, (l.filter dirt_).length = c := ⟨_, rfl⟩
              rw [hc2]
              have HC2 := Lib.hid hc2
              clear hb8 HJ7 hc2
              go_wp2_with fail
              refine (dirty_any (Lib.hid HJ8.out.idx) (by have := HLL.out; omega)).mono ?_
              rintro e w9 ⟨rfl, hb9⟩
              rw [HC2.out]
              have HJ9 := Lib.hid (HJ8.out.step hb9)
              clear hb9 HJ8
              go_wp2_with fail
              refine (awake_any _).mono ?_
              rintro e w10 ⟨rfl, hb10⟩
              have HB8 := Lib.hid (keep_call HB0.out (keep_call HJ9.out.below hb10))
              clear hb10
              go_wp2
              go_ret
              exact ⟨rfl, HB8.out⟩
        · have HDO := Lib.hid (HPT.out ho)
          have hoe : (r1 == -1) = false := by rw [beq_eq_false_iff_ne]; exact ho
          clear HD HPT ho
          go_wp2_with fail
          refine (put_full oi r1 r2 (Lib.hid HC6.out.cpy) HOK1.out.1.fit (by have h1 := HOK1.out.2; have h2 := HLL.out; omega) (by decide) (by unfold maxLen; omega)).mono ?_
          rintro e w7 ⟨rfl, hc7, hch7⟩
          have HC : Hid (∃ n' f', B2 w0 w7 x g b k x' g' b' n' l l f f') := by
            have h := HC6.out.turn hc7 hch7
            rw [HDO.out.2] at h
            exact ⟨_, _, h⟩
          rw [HDO.out.1]
          clear hc7 hch7 HC6 o1 o2 o3 c0 c1 d0 d1 HBX5 HBY hoe
          go_wp2_with fail
          go_loopw [14] (fun i wr => ∃ k2 : Nat, k2 ≤ 12 ∧ i = .int .i64 k2 ∧ ∃ n' f', B2 w0 wr x g b k x' g' b' n' l l f f') (fun i _ => 12 - (intOf i).toNat)
          case atStart => exact ⟨0, by omega, rfl, HC.out⟩
          case round =>
            clear HC
            obtain ⟨k2, hk2, rfl, n2, f2, hr⟩ := hrel
            have HJ := Lib.hid hr
            clear hr
            by_cases hk12 : k2 < 12
            · have hkl : k2 < l.length := by have := HLL.out; omega
              go_wp2_with fail
              refine (get_full (k2 : Int) (Lib.hid HJ.out.idx) HOK.out.fit).mono ?_
              rintro e w5 ⟨rfl, hb5⟩
              obtain ⟨p1, hp1⟩ : ∃ y, (getF l k2).1 = y := ⟨_, rfl⟩
              obtain ⟨p2, hp2⟩ : ∃ y, (getF l k2).2.1 = y := ⟨_, rfl⟩
              obtain ⟨p3, hp3⟩ : ∃ y, (getF l k2).2.2 = y := ⟨_, rfl⟩
              rw [hp1, hp2, hp3]
              have HP : Hid ((getF l k2).1 = p1 ∧ (getF l k2).2.1 = p2 ∧ (getF l k2).2.2 = p3) := ⟨hp1, hp2, hp3⟩
              clear hp1 hp2 hp3
              go_wp2_with fail
              obtain ⟨P1, hP1⟩ : ∃ y, y = w5.heap.size := ⟨_, rfl⟩
              obtain ⟨V, hV⟩ : ∃ y, y = w5.alloc (.cells #[.int .i64 p1, .bool p2] 35) := ⟨_, rfl⟩
              rw [← hV, ← hP1]
              have hA := hb5.alloc hb5.size (.cells #[.int .i64 p1, .bool p2] 35)
              rw [← hV] at hA
              have HBX : Hid (Blk V P1 35 #[.int .i64 p1, .bool p2]) := by rw [hV, hP1]; exact Blk.new _ _ _
              have HJ2 := Lib.hid (HJ.out.step hA)
              clear hA hV hP1 hb5 HJ
              refine (get_full (k2 : Int) (Lib.hid HJ2.out.cpy) HOK.out.fit).mono ?_
              rintro e w6 ⟨rfl, hb6⟩
              rw [HP.out.1, HP.out.2.1, HP.out.2.2]
              have hbx := HBX.out.below hb6 HBX.out.lt
              have HBX6 := Lib.hid hbx
              have HJ6 := Lib.hid (HJ2.out.step hb6)
              clear hbx HBX hb6 HJ2
              go_upto_region 27 with (fail)
              obtain ⟨P2, hP2⟩ : ∃ y, y = w6.heap.size := ⟨_, rfl⟩
              obtain ⟨V2, hV2⟩ : ∃ y, y = w6.alloc (.cells #[.int .i64 p1, .bool p2] 35) := ⟨_, rfl⟩
              rw [← hV2, ← hP2]
              have hA := (Below.refl w6.heap.size w6).alloc (Nat.le_refl _) (.cells #[.int .i64 p1, .bool p2] 35)
              rw [← hV2] at hA
              have HBY : Hid (Blk V2 P2 35 #[.int .i64 p1, .bool p2]) := by rw [hV2, hP2]; exact Blk.new _ _ _
              have HBX7 := Lib.hid (HBX6.out.below hA HBX6.out.lt)
              have HJ7 := Lib.hid (HJ6.out.step hA)
              clear hA hV2 hP2 HBX6 HJ6
              have c0 : V2.cell? ⟨P1, 0, none⟩ = some (.int .i64 p1) := by have h := HBX7.out.cell 0; simpa using h
              have c1 : V2.cell? ⟨P1, 1, none⟩ = some (.bool p2) := by have h := HBX7.out.cell 1; simpa using h
              have d0 : V2.cell? ⟨P2, 0, none⟩ = some (.int .i64 p1) := by have h := HBY.out.cell 0; simpa using h
              have d1 : V2.cell? ⟨P2, 1, none⟩ = some (.bool p2) := by have h := HBY.out.cell 1; simpa using h
              go_wp2
              go_roundw
              case rel => exact ⟨k2 + 1, by omega, by go_num, n2, f2, HJ7.out⟩
              case measure => simp [intOf]; omega
            · clear hk2
              go_wp2_with fail
              refine (len_any (Lib.hid HJ.out.cpy) (by have := HLL.out; omega) HOK.out.fit).mono ?_
              rintro e w6 ⟨rfl, hb6⟩
              have HJ6 := Lib.hid (HJ.out.step hb6)
              obtain ⟨c1, hc1⟩ : ∃ c, (l.filter some_).length = c := ⟨_, rfl⟩
              rw [hc1]
              have HC1 := Lib.hid hc1
              clear hb6 HJ hc1
              go_wp2_with fail
              refine (len_any (Lib.hid HJ6.out.idx) (by have := HLL.out; omega) HOK.out.fit).mono ?_
              rintro e w7 ⟨rfl, hb7⟩
              rw [HC1.out]
              have HJ7 := Lib.hid (HJ6.out.step hb7)
              clear hb7 HJ6
              go_wp2_with fail
              refine (dirty_any (Lib.hid HJ7.out.cpy) (by have := HLL.out; omega)).mono ?_
              rintro e w8 ⟨rfl, hb8⟩
              have HJ8 := Lib.hid (HJ7.out.step hb8)
              obtain ⟨c2, hc2⟩ : ∃ c, (l.filter dirt_).length = c := ⟨_, rfl⟩
              rw [hc2]
              have HC2 := Lib.hid hc2
              clear hb8 HJ7 hc2
              go_wp2_with fail
              refine (dirty_any (Lib.hid HJ8.out.idx) (by have := HLL.out; omega)).mono ?_
              rintro e w9 ⟨rfl, hb9⟩
              rw [HC2.out]
              have HJ9 := Lib.hid (HJ8.out.step hb9)
              clear hb9 HJ8
              go_wp2_with fail
              refine (awake_any _).mono ?_
              rintro e w10 ⟨rfl, hb10⟩
              have HB8 := Lib.hid (keep_call HB0.out (keep_call HJ9.out.below hb10))
              clear hb10
              go_wp2
              go_ret
              exact ⟨rfl, HB8.out⟩
      · have hl := HERR.out he
        subst l1
        have hee : (r3 == 0) = false := by rw [beq_eq_false_iff_ne]; exact he
        clear HERR HGET HDRP HPUT he
        go_wp2_with fail
        have hA := (Below.refl w3.heap.size w3).alloc (Nat.le_refl _) (.cells #[.int .i64 r1, .bool r2] 35)
        have HC : Hid (∃ n' f', B2 w0 (w3.alloc (.cells #[.int .i64 r1, .bool r2] 35)) x g b k x' g' b' n' l l f f') := ⟨_, _, HC3.out.step hA⟩
        clear hA HC3 hee
        go_loopw [14] (fun i wr => ∃ k2 : Nat, k2 ≤ 12 ∧ i = .int .i64 k2 ∧ ∃ n' f', B2 w0 wr x g b k x' g' b' n' l l f f') (fun i _ => 12 - (intOf i).toNat)
        case atStart => exact ⟨0, by omega, rfl, HC.out⟩
        case round =>
          clear HC
          obtain ⟨k2, hk2, rfl, n2, f2, hr⟩ := hrel
          have HJ := Lib.hid hr
          clear hr
          by_cases hk12 : k2 < 12
          · have hkl : k2 < l.length := by have := HLL.out; omega
            go_wp2_with fail
            refine (get_full (k2 : Int) (Lib.hid HJ.out.idx) HOK.out.fit).mono ?_
            rintro e w5 ⟨rfl, hb5⟩
            obtain ⟨p1, hp1⟩ : ∃ y, (getF l k2).1 = y := ⟨_, rfl⟩
            obtain ⟨p2, hp2⟩ : ∃ y, (getF l k2).2.1 = y := ⟨_, rfl⟩
            obtain ⟨p3, hp3⟩ : ∃ y, (getF l k2).2.2 = y := ⟨_, rfl⟩
            rw [hp1, hp2, hp3]
            have HP : Hid ((getF l k2).1 = p1 ∧ (getF l k2).2.1 = p2 ∧ (getF l k2).2.2 = p3) := ⟨hp1, hp2, hp3⟩
            clear hp1 hp2 hp3
            go_wp2_with fail
            obtain ⟨P1, hP1⟩ : ∃ y, y = w5.heap.size := ⟨_, rfl⟩
            obtain ⟨V, hV⟩ : ∃ y, y = w5.alloc (.cells #[.int .i64 p1, .bool p2] 35) := ⟨_, rfl⟩
            rw [← hV, ← hP1]
            have hA := hb5.alloc hb5.size (.cells #[.int .i64 p1, .bool p2] 35)
            rw [← hV] at hA
            have HBX : Hid (Blk V P1 35 #[.int .i64 p1, .bool p2]) := by rw [hV, hP1]; exact Blk.new _ _ _
            have HJ2 := Lib.hid (HJ.out.step hA)
            clear hA hV hP1 hb5 HJ
            refine (get_full (k2 : Int) (Lib.hid HJ2.out.cpy) HOK.out.fit).mono ?_
            rintro e w6 ⟨rfl, hb6⟩
            rw [HP.out.1, HP.out.2.1, HP.out.2.2]
            have hbx := HBX.out.below hb6 HBX.out.lt
            have HBX6 := Lib.hid hbx
            have HJ6 := Lib.hid (HJ2.out.step hb6)
            clear hbx HBX hb6 HJ2
            go_upto_region 27 with (fail)
            obtain ⟨P2, hP2⟩ : ∃ y, y = w6.heap.size := ⟨_, rfl⟩
            obtain ⟨V2, hV2⟩ : ∃ y, y = w6.alloc (.cells #[.int .i64 p1, .bool p2] 35) := ⟨_, rfl⟩
            rw [← hV2, ← hP2]
            have hA := (Below.refl w6.heap.size w6).alloc (Nat.le_refl _) (.cells #[.int .i64 p1, .bool p2] 35)
            rw [← hV2] at hA
            have HBY : Hid (Blk V2 P2 35 #[.int .i64 p1, .bool p2]) := by rw [hV2, hP2]; exact Blk.new _ _ _
            have HBX7 := Lib.hid (HBX6.out.below hA HBX6.out.lt)
            have HJ7 := Lib.hid (HJ6.out.step hA)
            clear hA hV2 hP2 HBX6 HJ6
            have c0 : V2.cell? ⟨P1, 0, none⟩ = some (.int .i64 p1) := by have h := HBX7.out.cell 0; simpa using h
            have c1 : V2.cell? ⟨P1, 1, none⟩ = some (.bool p2) := by have h := HBX7.out.cell 1; simpa using h
            have d0 : V2.cell? ⟨P2, 0, none⟩ = some (.int .i64 p1) := by have h := HBY.out.cell 0; simpa using h
            have d1 : V2.cell? ⟨P2, 1, none⟩ = some (.bool p2) := by have h := HBY.out.cell 1; simpa using h
            go_wp2
            go_roundw
            case rel => exact ⟨k2 + 1, by omega, by go_num, n2, f2, HJ7.out⟩
            case measure => simp [intOf]; omega
          · clear hk2
            go_wp2_with fail
            refine (len_any (Lib.hid HJ.out.cpy) (by have := HLL.out; omega) HOK.out.fit).mono ?_
            rintro e w6 ⟨rfl, hb6⟩
            have HJ6 := Lib.hid (HJ.out.step hb6)
            obtain ⟨c1, hc1⟩ : ∃ c, (l.filter some_).length = c := ⟨_, rfl⟩
            rw [hc1]
            have HC1 := Lib.hid hc1
            clear hb6 HJ hc1
            go_wp2_with fail
            refine (len_any (Lib.hid HJ6.out.idx) (by have := HLL.out; omega) HOK.out.fit).mono ?_
            rintro e w7 ⟨rfl, hb7⟩
            rw [HC1.out]
            have HJ7 := Lib.hid (HJ6.out.step hb7)
            clear hb7 HJ6
            go_wp2_with fail
            refine (dirty_any (Lib.hid HJ7.out.cpy) (by have := HLL.out; omega)).mono ?_
            rintro e w8 ⟨rfl, hb8⟩
            have HJ8 := Lib.hid (HJ7.out.step hb8)
            obtain ⟨c2, hc2⟩ : ∃ c, (l.filter dirt_).length = c := ⟨_, rfl⟩
            rw [hc2]
            have HC2 := Lib.hid hc2
            clear hb8 HJ7 hc2
            go_wp2_with fail
            refine (dirty_any (Lib.hid HJ8.out.idx) (by have := HLL.out; omega)).mono ?_
            rintro e w9 ⟨rfl, hb9⟩
            rw [HC2.out]
            have HJ9 := Lib.hid (HJ8.out.step hb9)
            clear hb9 HJ8
            go_wp2_with fail
            refine (awake_any _).mono ?_
            rintro e w10 ⟨rfl, hb10⟩
            have HB8 := Lib.hid (keep_call HB0.out (keep_call HJ9.out.below hb10))
            clear hb10
            go_wp2
            go_ret
            exact ⟨rfl, HB8.out⟩
end Go.Proofs.Ytofeodhekpnpaaa

/- The walk of SpansPlays. -/
import Derived.Test.YtelkanfmhfopnaaPlaysPlain
import Derived.Test.YtelkanfmhfopnaaMeets2
import Derived.Test.YtelkanfmhfopnaaMeet
namespace Go.Proofs.Ytelkanfmhfopnaa
open Go.RowKit Go.LawEnd

theorem infoRef : (Try.prog.info? 41).map (fun i => (i.zero, i.size, i.bytes)) = some (some (.agg (Array.replicate 200 (.bool false))), 200, 200) := by kernel_rfl
theorem bits_none : Array.replicate 200 (.bool false) = bits (fun _ => false) :=
  bits_ext Array.size_replicate fun i h => by rw [Array.getElem?_replicate, if_pos h]
theorem zero_ref (w : World) : (zeroValue 41).run Try.prog w = .ok (.agg (bits fun _ => false)) w := by
  obtain ⟨i, h1, h2, _⟩ := info_parts infoRef
  rw [bits_none] at h2
  simp [zeroValue, typeInfo, Sem.run_bind, run_program, Result.andThen, h1, h2]

set_option maxRecDepth 100000 in
set_option maxHeartbeats 6400000 in
theorem plays_any (A : Option Addr) (cp : Nat) (l : List Cl) (n : Int) (x : Sp) (w : World) (h : Hid (ClArg w A l)) (hln : l.length ≤ 9223372036854775807) (hi : Hid (∀ y ∈ l, I64 y.2)) (hx : I64 x) (hn : -9223372036854775808 ≤ n ∧ n ≤ 9223372036854775807) :
    Calls Try.prog 5 #[.slice A l.length cp, .int .i64 n, .agg #[.int .i64 x.1, .int .i64 x.2]] w (Yes w) := by
  obtain ⟨x0, x1⟩ := x
  have HX := Lib.hid hx
  obtain ⟨P3, hP3⟩ : ∃ y, y = w.heap.size := ⟨_, rfl⟩
  obtain ⟨V, hV⟩ : ∃ y, y = w.alloc (.cells #[.int .i64 x0, .int .i64 x1] 26) := ⟨_, rfl⟩
  have HW : Hid (Hv w No [blkA P3 26 #[.int .i64 x0, .int .i64 x1]] V) := by
    rw [hV, hP3]
    exact (Hv.begin w).alloc 26 #[.int .i64 x0, .int .i64 x1]
  have HN := Lib.hid hn
  clear hx hn
  go_enter Try.func5, Try.ntmps5
  go_wp2_with fail
  rw [← hV, ← hP3]
  clear hV hP3
  refine (new_may none 0 [] V (fun k hk => by simp at hk) (by simp) (fun y hy => by simp at hy) (fun y hy => by simp at hy)).mono ?_
  rintro e w1 ⟨s, rfl, h1⟩
  rw [show newF [] = [] from rfl] at h1
  have HV1 : Hid (Hv w No [setA s [], blkA P3 26 #[.int .i64 x0, .int .i64 x1]] w1) := (HW.out.add h1).pick [0, 1]
  have HA1 : Hid (ClArg w1 A l) := h.out.below HV1.out.below
  clear h1 HW
  go_wp2_with fail
  refine (small_any A cp l _ HA1 hln hi).mono ?_
  rintro e w2 ⟨v, rfl, hv, hb2⟩
  have HV2 := Lib.hid (HV1.out.still hb2)
  clear hb2 HV1 HA1
  cases v
  · clear hv
    go_wp2_with fail
    refine (awake_any _).mono ?_
    rintro e w8 ⟨rfl, hb8⟩
    have HV8 := Lib.hid (HV2.out.still hb8)
    clear hb8 HV2
    go_wp2
    go_ret
    exact ⟨rfl, HV8.out.below⟩
  · obtain ⟨hl60, hsm⟩ := hv rfl
    have hz := zero_ref
    obtain ⟨Z, hZ⟩ : ∃ Z, Z = bits (fun _ => false) := ⟨_, rfl⟩
    rw [← hZ] at hz
    have hzs : Z.size = 200 := by rw [hZ, bits_size]
    have HZ := Lib.hid hZ
    clear hZ
    have HSM := Lib.hid hsm
    clear hv hsm
    go_wp2_with fail
    obtain ⟨R, hR⟩ : ∃ y, y = w2.heap.size := ⟨_, rfl⟩
    obtain ⟨W3, hW3⟩ : ∃ y, y = w2.alloc (.cells Z 41) := ⟨_, rfl⟩
    rw [← hR, ← hW3]
    have HV3 : Hid (Hv w No [setA s (spF (fun _ => false) 200), refA R (fun _ => false), blkA P3 26 #[.int .i64 x0, .int .i64 x1]] W3) := by
      have := (HV2.out.alloc 41 Z).pick [1, 0, 2]
      rw [hR, hW3, spF_none]
      rw [HZ.out] at this ⊢
      exact this
    clear hz HZ hzs hR hW3 HV2
    go_loopw [10, 11, 12, 13] (fun i _ _ _ wr => ∃ k : Nat, k ≤ l.length ∧ i = .int .i64 k ∧ ∃ f : Int → Bool, Hid (Hv w No [setA s (spF f 200), refA R f, blkA P3 26 #[.int .i64 x0, .int .i64 x1]] wr)) (fun i _ _ _ _ => l.length - (intOf i).toNat)
    case atStart => exact ⟨0, by omega, rfl, _, HV3⟩
    case round =>
      clear HV3
      obtain ⟨k, hk, rfl, f, HV⟩ := hrel
      by_cases hkl : k < l.length
      · obtain ⟨b, off, rfl, hb, c0, c1, c2⟩ := h.out k hkl
        have hil := hi.out l[k] (List.getElem_mem hkl)
        have hsk := HSM.out l[k] (List.getElem_mem hkl)
        obtain ⟨y, hy⟩ : ∃ y, y = l[k] := ⟨_, rfl⟩
        rw [← hy] at c0 c1 c2 hil hsk
        clear hy
        obtain ⟨z, y0, y1⟩ := y
        have HIY : Hid (I64 (y0, y1)) := hil
        have HSK := Lib.hid hsk
        have HC : Hid (∀ W : World, Below w.heap.size w W → W.cell? ⟨b, off + k * 3, none⟩ = some (.bool z) ∧ W.cell? ⟨b, off + k * 3 + 1, none⟩ = some (.int .i64 y0) ∧ W.cell? ⟨b, off + k * 3 + 2, none⟩ = some (.int .i64 y1)) := fun W hW => ⟨(hW.cell (p := ⟨b, off + k * 3, none⟩) hb).trans c0, (hW.cell (p := ⟨b, off + k * 3 + 1, none⟩) hb).trans c1, (hW.cell (p := ⟨b, off + k * 3 + 2, none⟩) hb).trans c2⟩
        clear hb c0 c1 c2 hil hsk
        obtain ⟨S, hS⟩ : ∃ S, S = spF f 200 := ⟨_, rfl⟩
        have HO : Hid (OkS S) := by show OkS S; rw [hS]; exact (spF_ok f 200 (Nat.le_refl _)).1
        have HS := Lib.hid hS
        rw [← hS] at HV
        clear hS
        obtain ⟨k0, k1, k2⟩ := HC.out _ HV.out.below
        have f1 : (0 : Int) ≤ (k : Int) := by omega
        have f2 : (k : Int) < (l.length : Int) := by omega
        go_wp2_with fail
        refine (right_any (y0, y1) _ HIY.out).mono ?_
        rintro e w4 ⟨rfl, hb4⟩
        have HV4 := Lib.hid (HV.out.still hb4)
        clear hb4 k0 k1 k2 HV
        cases hm : mayB (y0, y1)
        · obtain ⟨g, hg⟩ : ∃ g, g = f := ⟨_, rfl⟩
          have HG : Hid (g = refF f (z, y0, y1)) := by show _ = _; unfold refF; simp only [hm]; rw [if_neg (by simp)]; exact hg
          rw [← hg] at HV4
          have HV5 := HV4
          clear HV4 hg
          obtain ⟨k0, k1, k2⟩ := HC.out _ HV5.out.below
          go_wp2_with fail
          obtain ⟨T5, hT5, hJ5⟩ := Hv.use [setA s S] _ HV5.out
          have HT5 := Lib.hid hT5
          refine (does_at s S (z, y0, y1) _ 10 (by show (if mayB (y0, y1) = true then (0 : Int) else 10) = _; rw [hm]; rfl) HT5 HO HIY).mono ?_
          rintro e w6 ⟨rfl, h6⟩
          obtain ⟨S2, hS2⟩ : ∃ S2, S2 = doF S (z, y0, y1) := ⟨_, rfl⟩
          have HS2 : Hid (S2 = spF g 200) := by show _ = _; rw [hS2, HG.out, HS.out]; exact do_ref HSK.out
          have HO2 : Hid (OkS S2) := by show OkS S2; rw [HS2.out]; exact (spF_ok g 200 (Nat.le_refl _)).1
          have HL2 : Hid (S2.length ≤ 200) := by show _ ≤ _; rw [HS2.out]; exact spF_small g 200
          rw [← hS2] at h6
          have HV6 : Hid (Hv w No [setA s S2, refA R g, blkA P3 26 #[.int .i64 x0, .int .i64 x1]] w6) := hJ5 _ _ h6
          clear hT5 hJ5 HT5 HV5 h6 hS2 k0 k1 k2 hm HSK HS HO
          go_wp2_with fail
          obtain ⟨T6, hT6, hJ6⟩ := Hv.use [setA s S2] _ HV6.out
          have HT6 := Lib.hid hT6
          clear hT6 hJ6
          refine (allOf_any s S2 _ HT6 HO2 (by have := HL2.out; omega)).mono ?_
          rintro e w7 ⟨v7, rfl, h7, _⟩
          have HV7 : Hid (Hv w No [refA R g, rsA v7 S2, setA s S2, blkA P3 26 #[.int .i64 x0, .int .i64 x1]] w7) := (HV6.out.add h7).pick [2, 0, 1, 3]
          clear h7 HT6 HV6
          obtain ⟨A7, c7, e7, _⟩ := SpArg.of_own (HV7.out.row (i := 1) rfl)
          subst e7
          go_wp2_with fail
          obtain ⟨T7, hT7, hJ7⟩ := Hv.use [refA R g] _ HV7.out
          have HT7 := Lib.hid hT7
          clear hT7 hJ7
          refine (refspans_any R g _ HT7).mono ?_
          rintro e w8 ⟨v8, rfl, h8⟩
          rw [← HS2.out] at h8
          have HV8 : Hid (Hv w No [setA s S2, refA R g, rsA (.slice A7 S2.length c7) S2, rsA v8 S2, blkA P3 26 #[.int .i64 x0, .int .i64 x1]] w8) := (HV7.out.add h8).pick [3, 1, 2, 0, 4]
          clear h8 HT7 HV7
          obtain ⟨A8, c8, e8, _⟩ := SpArg.of_own (HV8.out.row (i := 3) rfl)
          subst e8
          go_wp2_with fail
          refine (spans_any A7 A8 c7 c8 S2 S2 _ (row_arg HV8.out (i := 2) rfl) (row_arg HV8.out (i := 3) rfl) (by have := HL2.out; omega)).mono ?_
          rintro e w9 ⟨rfl, hb9⟩
          rw [show decide (S2 = S2) = true by simp]
          have HV9 : Hid (Hv w No [setA s S2, refA R g, blkA P3 26 #[.int .i64 x0, .int .i64 x1]] w9) := (HV8.out.still hb9).pick [0, 1, 4]
          clear hb9 HV8
          go_wp2_with fail
          obtain ⟨Ta, hTa, hJa⟩ := Hv.use [setA s S2] _ HV9.out
          have HTa := Lib.hid hTa
          clear hTa hJa
          refine (len_any s S2 _ HTa HO2).mono ?_
          rintro e wa ⟨rfl, hba⟩
          rw [show total S2 = cnt g 200 by rw [HS2.out]; exact spF_total g 200]
          have HVa : Hid (Hv w No [refA R g, setA s S2, blkA P3 26 #[.int .i64 x0, .int .i64 x1]] wa) := (HV9.out.still hba).pick [1, 0, 2]
          clear hba HV9 HTa
          go_wp2_with fail
          obtain ⟨Tb, hTb, hJb⟩ := Hv.use [refA R g] _ HVa.out
          have HTb := Lib.hid hTb
          clear hTb hJb
          refine (reflen_any R g _ HTb).mono ?_
          rintro e wb ⟨rfl, hbb⟩
          have HVb : Hid (Hv w No [setA s S2, refA R g, blkA P3 26 #[.int .i64 x0, .int .i64 x1]] wb) := (HVa.out.still hbb).pick [1, 0, 2]
          clear hbb HVa HTb
          go_wp2_with fail
          go_roundw
          case rel => exact ⟨k + 1, by omega, by go_num, g, by rw [← HS2.out]; exact HVb⟩
          case measure => simp [intOf]; omega
        · obtain ⟨g, hg⟩ : ∃ g, g = turnF f (y0, y1) (!z) 200 := ⟨_, rfl⟩
          have HG : Hid (g = refF f (z, y0, y1)) := by show _ = _; unfold refF; simp only [hm, if_true]; exact hg
          have HG2 := Lib.hid hg
          clear hg
          have HMM := Lib.hid hm
          clear hm
          have HX1 := Lib.hid HV4.out.drew
          obtain ⟨k0, k1, k2⟩ := HC.out _ HX1.out.below
          clear HV4
          go_wp2_with fail
          go_region_held3 (fun W => W.cell? ⟨b, off + k * 3, none⟩ = some (.bool z) ∧ W.cell? ⟨b, off + k * 3 + 1, none⟩ = some (.int .i64 y0) ∧ W.cell? ⟨b, off + k * 3 + 2, none⟩ = some (.int .i64 y1))
            (first | exact HC.out _ HX1.out.below | assumption | fail)
            (first
              | (go_at_call 16; have hQ1 : Hv w No ([refA R f] ++ [setA s S, blkA P3 26 #[.int .i64 x0, .int .i64 x1]]) _ := HX1.out.pick [1, 0, 2]; obtain ⟨T5, hT5, hJ5⟩ := Hv.use [refA R f] _ hQ1; refine (turn_any R f (y0, y1) (!z) _ hT5 ((mayB_iff _).1 HMM.out)).mono ?_; rintro e W6 ⟨⟨v6, rfl⟩, h6⟩; rw [← HG2.out] at h6; have hQ2 := hJ5 _ _ h6; have HX1 : Hid (Hv w No [setA s S, refA R g, blkA P3 26 #[.int .i64 x0, .int .i64 x1]] W6) := hQ2.pick [1, 0, 2]; clear h6 hJ5 hT5 hQ1 hQ2)
              | fail)
          have hm := HMM.out
          have HV5 := HX1
          clear HX1 HG2 HMM
          obtain ⟨k0, k1, k2⟩ := HC.out _ HV5.out.below
          go_wp2_with fail
          obtain ⟨T5, hT5, hJ5⟩ := Hv.use [setA s S] _ HV5.out
          have HT5 := Lib.hid hT5
          refine (does_at s S (z, y0, y1) _ 0 (by show (if mayB (y0, y1) = true then (0 : Int) else 10) = _; rw [hm]; rfl) HT5 HO HIY).mono ?_
          rintro e w6 ⟨rfl, h6⟩
          obtain ⟨S2, hS2⟩ : ∃ S2, S2 = doF S (z, y0, y1) := ⟨_, rfl⟩
          have HS2 : Hid (S2 = spF g 200) := by show _ = _; rw [hS2, HG.out, HS.out]; exact do_ref HSK.out
          have HO2 : Hid (OkS S2) := by show OkS S2; rw [HS2.out]; exact (spF_ok g 200 (Nat.le_refl _)).1
          have HL2 : Hid (S2.length ≤ 200) := by show _ ≤ _; rw [HS2.out]; exact spF_small g 200
          rw [← hS2] at h6
          have HV6 : Hid (Hv w No [setA s S2, refA R g, blkA P3 26 #[.int .i64 x0, .int .i64 x1]] w6) := hJ5 _ _ h6
          clear hT5 hJ5 HT5 HV5 h6 hS2 k0 k1 k2 hm HSK HS HO
          go_wp2_with fail
          obtain ⟨T6, hT6, hJ6⟩ := Hv.use [setA s S2] _ HV6.out
          have HT6 := Lib.hid hT6
          clear hT6 hJ6
          refine (allOf_any s S2 _ HT6 HO2 (by have := HL2.out; omega)).mono ?_
          rintro e w7 ⟨v7, rfl, h7, _⟩
          have HV7 : Hid (Hv w No [refA R g, rsA v7 S2, setA s S2, blkA P3 26 #[.int .i64 x0, .int .i64 x1]] w7) := (HV6.out.add h7).pick [2, 0, 1, 3]
          clear h7 HT6 HV6
          obtain ⟨A7, c7, e7, _⟩ := SpArg.of_own (HV7.out.row (i := 1) rfl)
          subst e7
          go_wp2_with fail
          obtain ⟨T7, hT7, hJ7⟩ := Hv.use [refA R g] _ HV7.out
          have HT7 := Lib.hid hT7
          clear hT7 hJ7
          refine (refspans_any R g _ HT7).mono ?_
          rintro e w8 ⟨v8, rfl, h8⟩
          rw [← HS2.out] at h8
          have HV8 : Hid (Hv w No [setA s S2, refA R g, rsA (.slice A7 S2.length c7) S2, rsA v8 S2, blkA P3 26 #[.int .i64 x0, .int .i64 x1]] w8) := (HV7.out.add h8).pick [3, 1, 2, 0, 4]
          clear h8 HT7 HV7
          obtain ⟨A8, c8, e8, _⟩ := SpArg.of_own (HV8.out.row (i := 3) rfl)
          subst e8
          go_wp2_with fail
          refine (spans_any A7 A8 c7 c8 S2 S2 _ (row_arg HV8.out (i := 2) rfl) (row_arg HV8.out (i := 3) rfl) (by have := HL2.out; omega)).mono ?_
          rintro e w9 ⟨rfl, hb9⟩
          rw [show decide (S2 = S2) = true by simp]
          have HV9 : Hid (Hv w No [setA s S2, refA R g, blkA P3 26 #[.int .i64 x0, .int .i64 x1]] w9) := (HV8.out.still hb9).pick [0, 1, 4]
          clear hb9 HV8
          go_wp2_with fail
          obtain ⟨Ta, hTa, hJa⟩ := Hv.use [setA s S2] _ HV9.out
          have HTa := Lib.hid hTa
          clear hTa hJa
          refine (len_any s S2 _ HTa HO2).mono ?_
          rintro e wa ⟨rfl, hba⟩
          rw [show total S2 = cnt g 200 by rw [HS2.out]; exact spF_total g 200]
          have HVa : Hid (Hv w No [refA R g, setA s S2, blkA P3 26 #[.int .i64 x0, .int .i64 x1]] wa) := (HV9.out.still hba).pick [1, 0, 2]
          clear hba HV9 HTa
          go_wp2_with fail
          obtain ⟨Tb, hTb, hJb⟩ := Hv.use [refA R g] _ HVa.out
          have HTb := Lib.hid hTb
          clear hTb hJb
          refine (reflen_any R g _ HTb).mono ?_
          rintro e wb ⟨rfl, hbb⟩
          have HVb : Hid (Hv w No [setA s S2, refA R g, blkA P3 26 #[.int .i64 x0, .int .i64 x1]] wb) := (HVa.out.still hbb).pick [1, 0, 2]
          clear hbb HVa HTb
          go_wp2_with fail
          go_roundw
          case rel => exact ⟨k + 1, by omega, by go_num, g, by rw [← HS2.out]; exact HVb⟩
          case measure => simp [intOf]; omega
      · obtain ⟨S, hS⟩ : ∃ S, S = spF f 200 := ⟨_, rfl⟩
        have HO : Hid (OkS S) := by show OkS S; rw [hS]; exact (spF_ok f 200 (Nat.le_refl _)).1
        have HS := Lib.hid hS
        rw [← hS] at HV
        clear hS h hi HSM
        have HSH : Hid (memB S n = (decide (0 ≤ n) && decide (n < 200) && f n)) := by show _ = _; rw [HS.out]; exact spF_has f n
        by_cases hn0 : 0 ≤ n
        · have d0 : decide (0 ≤ n) = true := decide_eq_true hn0
          by_cases hn1 : n < 200
          · have d1 : decide (n < 200) = true := decide_eq_true hn1
            obtain ⟨j, rfl⟩ := Int.eq_ofNat_of_zero_le hn0
            rw [d0, d1] at HSH
            obtain ⟨vh, hvh⟩ : ∃ vh, vh = f (j : Int) := ⟨_, rfl⟩
            have kr := ref_cell HV.out (i := 1) rfl j (by omega)
            have HVH : Hid (memB S (j : Int) = vh) := by show _ = _; rw [HSH.out, hvh]; simp
            rw [← hvh] at kr
            clear hvh HSH
            have m1 : min (199 : Int) (j : Int) = j := by omega
            have m2 : max (0 : Int) (j : Int) = j := by omega
            have m3 : ¬ (199 : Int) < (j : Int) := by omega
            have m4 : (j : Int) ≤ 199 := by omega
            have m5 : decide ((199 : Int) < (j : Int)) = false := decide_eq_false m3
            go_wp2_with fail
            obtain ⟨T4, hT4, hJ4⟩ := Hv.use [setA s S] _ HV.out
            have HT4 := Lib.hid hT4
            clear hT4 hJ4
            refine (has_at s S (j : Int) _ HT4 HO).mono ?_
            rintro e w4 ⟨rfl, hb4⟩
            rw [HVH.out]
            have HV4 := Lib.hid (HV.out.still hb4)
            clear hb4 HV HT4
            try clear kr
            have k0 : w4.cell? ⟨P3, 0, none⟩ = some (.int .i64 x0) := by simpa using (HV4.out.blk (i := 2) rfl).cell 0
            have k1 : w4.cell? ⟨P3, 1, none⟩ = some (.int .i64 x1) := by simpa using (HV4.out.blk (i := 2) rfl).cell 1
            go_wp2_with fail
            refine (right_any (x0, x1) _ HX.out).mono ?_
            rintro e w5 ⟨rfl, hb5⟩
            have HV5 := Lib.hid (HV4.out.still hb5)
            clear hb5 HV4 k0 k1
            cases hmx : mayB (x0, x1)
            · have HF : Hid (meetsF S (x0, x1) = false) := by show _ = _; unfold meetsF; rw [hmx]; rfl
              obtain ⟨⟨hi1, hi2⟩, hi3, hi4⟩ := HX.out
              simp only [] at hi1 hi2 hi3 hi4
              have k0 : w5.cell? ⟨P3, 0, none⟩ = some (.int .i64 x0) := by simpa using (HV5.out.blk (i := 2) rfl).cell 0
              have k1 : w5.cell? ⟨P3, 1, none⟩ = some (.int .i64 x1) := by simpa using (HV5.out.blk (i := 2) rfl).cell 1
              clear hmx
              go_wp2_with fail
              obtain ⟨T4, hT4, hJ4⟩ := Hv.use [setA s S] _ HV5.out
              have HT4 := Lib.hid hT4
              clear hT4 hJ4
              refine (meets_any s S (x0, x1) _ HT4 HO hi3 hi4).mono ?_
              rintro e w6 ⟨rfl, hb6⟩
              rw [HF.out]
              have HV6 := Lib.hid (HV5.out.still hb6)
              clear hb6 HV5 HT4 k0 k1
              go_wp2_with fail
              refine (awake_any _).mono ?_
              rintro e w8 ⟨rfl, hb8⟩
              have HV8 := Lib.hid (HV6.out.still hb8)
              clear hb8 HV6
              go_wp2
              go_ret
              exact ⟨rfl, HV8.out.below⟩
            · have HMX := Lib.hid ((mayB_iff _).1 hmx)
              clear hmx
              obtain ⟨hx0, hx1, hx2⟩ := HMX.out
              unfold en at hx2
              simp only [] at hx0 hx1 hx2
              obtain ⟨a, rfl⟩ := Int.eq_ofNat_of_zero_le hx0
              have k0 : w5.cell? ⟨P3, 0, none⟩ = some (.int .i64 (a : Int)) := by simpa using (HV5.out.blk (i := 2) rfl).cell 0
              go_wp2_with fail
              clear k0
              go_loopw [15, 16] (fun m i wr => ∃ p q : Nat, Hid (p = a + q) ∧ i = .int .i64 p ∧ m = .bool (anyF f a q) ∧ ((q : Int) ≤ x1 ∧ ((p : Int) ≤ 200 ∨ q = 0)) ∧ Hid (Hv w No [setA s S, refA R f, blkA P3 26 #[.int .i64 (a : Int), .int .i64 x1]] wr)) (fun _ i _ => (a + x1).toNat - (intOf i).toNat)
              case atStart => exact ⟨a, 0, rfl, rfl, rfl, ⟨hx1, .inr rfl⟩, HV5⟩
              case round =>
                clear HV5
                obtain ⟨p, q, HP, rfl, rfl, ⟨hq1, hq2⟩, HV6⟩ := hrel
                have hp := HP.out
                obtain ⟨m, hm⟩ : ∃ m, m = anyF f a q := ⟨_, rfl⟩
                have HM := Lib.hid hm
                rw [← hm]
                clear hm
                have k0 : wr.cell? ⟨P3, 0, none⟩ = some (.int .i64 (a : Int)) := by simpa using (HV6.out.blk (i := 2) rfl).cell 0
                have k1 : wr.cell? ⟨P3, 1, none⟩ = some (.int .i64 x1) := by simpa using (HV6.out.blk (i := 2) rfl).cell 1
                have e7 : IntKind.i64.wrap ((a : Int) + x1) = a + x1 := IntWalk.i64_in _ (by omega)
                by_cases hc : (p : Int) < a + x1 ∧ (p : Int) < 200
                · have b1 : decide ((p : Int) < a + x1) = true := decide_eq_true hc.1
                  have b2 : decide ((p : Int) < 200) = true := decide_eq_true hc.2
                  have kr := ref_cell HV6.out (i := 1) rfl p (by omega)
                  have HN1 : Hid (anyF f a (q + 1) = (m || f (p : Int))) := by show _ = _; rw [anyF_succ, HM.out, hp]; simp
                  obtain ⟨u, hu⟩ : ∃ u, u = f (p : Int) := ⟨_, rfl⟩
                  rw [← hu] at kr HN1
                  clear hu
                  obtain ⟨hc1, hc2⟩ := hc
                  have hp2 : ¬ (p : Int) < 0 := by omega
                  have hp3 : p < 200 := by omega
                  have hpz : p + 1 = a + (q + 1) := by omega
                  have HPZ := Lib.hid hpz
                  have hq3 : ((q + 1 : Nat) : Int) ≤ x1 := by omega
                  have HQ3 := Lib.hid hq3
                  clear hp HM hpz hq3
                  cases m
                  all_goals
                    go_wp2_with fail
                    go_roundw
                    case rel => exact ⟨p + 1, q + 1, HPZ, by go_num, by rw [HN1.out]; simp, ⟨HQ3.out, .inl (by omega)⟩, HV6⟩
                    case measure => simp [intOf]; omega
                · have HEND : Hid (meetsF S ((a : Int), x1) = m) := by
                    show _ = _
                    rw [HS.out, HM.out]
                    refine anyF_meets (x := ((a : Int), x1)) HMX.out hq1 ?_ ?_
                    · rcases hq2 with h | h
                      · exact .inl (by show (a : Int) + (q : Int) ≤ 200; omega)
                      · exact .inr h
                    · show (q : Int) = x1 ∨ 200 ≤ (a : Int) + (q : Int)
                      omega
                  obtain ⟨vc, hvc⟩ : ∃ vc, vc = decide ((p : Int) < a + x1) := ⟨_, rfl⟩
                  have hb2 : vc = true → decide ((p : Int) < 200) = false := fun h => by
                    rw [hvc, decide_eq_true_eq] at h
                    exact decide_eq_false (by omega)
                  have b1 := hvc.symm
                  clear hvc hc HM HP hp
                  obtain ⟨⟨hi1, hi2⟩, hi3, hi4⟩ := HX.out
                  simp only [] at hi1 hi2 hi3 hi4
                  cases vc
                  all_goals
                    try have b2 := hb2 rfl
                    clear hb2
                    go_wp2_with fail
                    obtain ⟨T4, hT4, hJ4⟩ := Hv.use [setA s S] _ HV6.out
                    have HT4 := Lib.hid hT4
                    clear hT4 hJ4
                    refine (meets_any s S ((a : Int), x1) _ HT4 HO hi3 hi4).mono ?_
                    rintro e w7 ⟨rfl, hb7⟩
                    rw [HEND.out]
                    have HV7 := Lib.hid (HV6.out.still hb7)
                    clear hb7 HV6 HT4 k0 k1
                    cases m
                    all_goals
                      go_wp2_with fail
                      refine (awake_any _).mono ?_
                      rintro e w8 ⟨rfl, hb8⟩
                      have HV8 := Lib.hid (HV7.out.still hb8)
                      clear hb8 HV7
                      go_wp2
                      go_ret
                      exact ⟨rfl, HV8.out.below⟩
          · have d1 : decide (n < 200) = false := decide_eq_false hn1
            have HVH : Hid (memB S n = false) := by show _ = _; rw [HSH.out, d1]; simp
            obtain ⟨vh, hvh⟩ : ∃ vh, vh = false := ⟨_, rfl⟩
            rw [← hvh] at HVH
            subst hvh
            go_wp2_with fail
            obtain ⟨T4, hT4, hJ4⟩ := Hv.use [setA s S] _ HV.out
            have HT4 := Lib.hid hT4
            clear hT4 hJ4
            refine (has_at s S n _ HT4 HO).mono ?_
            rintro e w4 ⟨rfl, hb4⟩
            rw [HVH.out]
            have HV4 := Lib.hid (HV.out.still hb4)
            clear hb4 HV HT4
            try clear kr
            have k0 : w4.cell? ⟨P3, 0, none⟩ = some (.int .i64 x0) := by simpa using (HV4.out.blk (i := 2) rfl).cell 0
            have k1 : w4.cell? ⟨P3, 1, none⟩ = some (.int .i64 x1) := by simpa using (HV4.out.blk (i := 2) rfl).cell 1
            go_wp2_with fail
            refine (right_any (x0, x1) _ HX.out).mono ?_
            rintro e w5 ⟨rfl, hb5⟩
            have HV5 := Lib.hid (HV4.out.still hb5)
            clear hb5 HV4 k0 k1
            cases hmx : mayB (x0, x1)
            · have HF : Hid (meetsF S (x0, x1) = false) := by show _ = _; unfold meetsF; rw [hmx]; rfl
              obtain ⟨⟨hi1, hi2⟩, hi3, hi4⟩ := HX.out
              simp only [] at hi1 hi2 hi3 hi4
              have k0 : w5.cell? ⟨P3, 0, none⟩ = some (.int .i64 x0) := by simpa using (HV5.out.blk (i := 2) rfl).cell 0
              have k1 : w5.cell? ⟨P3, 1, none⟩ = some (.int .i64 x1) := by simpa using (HV5.out.blk (i := 2) rfl).cell 1
              clear hmx
              go_wp2_with fail
              obtain ⟨T4, hT4, hJ4⟩ := Hv.use [setA s S] _ HV5.out
              have HT4 := Lib.hid hT4
              clear hT4 hJ4
              refine (meets_any s S (x0, x1) _ HT4 HO hi3 hi4).mono ?_
              rintro e w6 ⟨rfl, hb6⟩
              rw [HF.out]
              have HV6 := Lib.hid (HV5.out.still hb6)
              clear hb6 HV5 HT4 k0 k1
              go_wp2_with fail
              refine (awake_any _).mono ?_
              rintro e w8 ⟨rfl, hb8⟩
              have HV8 := Lib.hid (HV6.out.still hb8)
              clear hb8 HV6
              go_wp2
              go_ret
              exact ⟨rfl, HV8.out.below⟩
            · have HMX := Lib.hid ((mayB_iff _).1 hmx)
              clear hmx
              obtain ⟨hx0, hx1, hx2⟩ := HMX.out
              unfold en at hx2
              simp only [] at hx0 hx1 hx2
              obtain ⟨a, rfl⟩ := Int.eq_ofNat_of_zero_le hx0
              have k0 : w5.cell? ⟨P3, 0, none⟩ = some (.int .i64 (a : Int)) := by simpa using (HV5.out.blk (i := 2) rfl).cell 0
              go_wp2_with fail
              clear k0
              go_loopw [15, 16] (fun m i wr => ∃ p q : Nat, Hid (p = a + q) ∧ i = .int .i64 p ∧ m = .bool (anyF f a q) ∧ ((q : Int) ≤ x1 ∧ ((p : Int) ≤ 200 ∨ q = 0)) ∧ Hid (Hv w No [setA s S, refA R f, blkA P3 26 #[.int .i64 (a : Int), .int .i64 x1]] wr)) (fun _ i _ => (a + x1).toNat - (intOf i).toNat)
              case atStart => exact ⟨a, 0, rfl, rfl, rfl, ⟨hx1, .inr rfl⟩, HV5⟩
              case round =>
                clear HV5
                obtain ⟨p, q, HP, rfl, rfl, ⟨hq1, hq2⟩, HV6⟩ := hrel
                have hp := HP.out
                obtain ⟨m, hm⟩ : ∃ m, m = anyF f a q := ⟨_, rfl⟩
                have HM := Lib.hid hm
                rw [← hm]
                clear hm
                have k0 : wr.cell? ⟨P3, 0, none⟩ = some (.int .i64 (a : Int)) := by simpa using (HV6.out.blk (i := 2) rfl).cell 0
                have k1 : wr.cell? ⟨P3, 1, none⟩ = some (.int .i64 x1) := by simpa using (HV6.out.blk (i := 2) rfl).cell 1
                have e7 : IntKind.i64.wrap ((a : Int) + x1) = a + x1 := IntWalk.i64_in _ (by omega)
                by_cases hc : (p : Int) < a + x1 ∧ (p : Int) < 200
                · have b1 : decide ((p : Int) < a + x1) = true := decide_eq_true hc.1
                  have b2 : decide ((p : Int) < 200) = true := decide_eq_true hc.2
                  have kr := ref_cell HV6.out (i := 1) rfl p (by omega)
                  have HN1 : Hid (anyF f a (q + 1) = (m || f (p : Int))) := by show _ = _; rw [anyF_succ, HM.out, hp]; simp
                  obtain ⟨u, hu⟩ : ∃ u, u = f (p : Int) := ⟨_, rfl⟩
                  rw [← hu] at kr HN1
                  clear hu
                  obtain ⟨hc1, hc2⟩ := hc
                  have hp2 : ¬ (p : Int) < 0 := by omega
                  have hp3 : p < 200 := by omega
                  have hpz : p + 1 = a + (q + 1) := by omega
                  have HPZ := Lib.hid hpz
                  have hq3 : ((q + 1 : Nat) : Int) ≤ x1 := by omega
                  have HQ3 := Lib.hid hq3
                  clear hp HM hpz hq3
                  cases m
                  all_goals
                    go_wp2_with fail
                    go_roundw
                    case rel => exact ⟨p + 1, q + 1, HPZ, by go_num, by rw [HN1.out]; simp, ⟨HQ3.out, .inl (by omega)⟩, HV6⟩
                    case measure => simp [intOf]; omega
                · have HEND : Hid (meetsF S ((a : Int), x1) = m) := by
                    show _ = _
                    rw [HS.out, HM.out]
                    refine anyF_meets (x := ((a : Int), x1)) HMX.out hq1 ?_ ?_
                    · rcases hq2 with h | h
                      · exact .inl (by show (a : Int) + (q : Int) ≤ 200; omega)
                      · exact .inr h
                    · show (q : Int) = x1 ∨ 200 ≤ (a : Int) + (q : Int)
                      omega
                  obtain ⟨vc, hvc⟩ : ∃ vc, vc = decide ((p : Int) < a + x1) := ⟨_, rfl⟩
                  have hb2 : vc = true → decide ((p : Int) < 200) = false := fun h => by
                    rw [hvc, decide_eq_true_eq] at h
                    exact decide_eq_false (by omega)
                  have b1 := hvc.symm
                  clear hvc hc HM HP hp
                  obtain ⟨⟨hi1, hi2⟩, hi3, hi4⟩ := HX.out
                  simp only [] at hi1 hi2 hi3 hi4
                  cases vc
                  all_goals
                    try have b2 := hb2 rfl
                    clear hb2
                    go_wp2_with fail
                    obtain ⟨T4, hT4, hJ4⟩ := Hv.use [setA s S] _ HV6.out
                    have HT4 := Lib.hid hT4
                    clear hT4 hJ4
                    refine (meets_any s S ((a : Int), x1) _ HT4 HO hi3 hi4).mono ?_
                    rintro e w7 ⟨rfl, hb7⟩
                    rw [HEND.out]
                    have HV7 := Lib.hid (HV6.out.still hb7)
                    clear hb7 HV6 HT4 k0 k1
                    cases m
                    all_goals
                      go_wp2_with fail
                      refine (awake_any _).mono ?_
                      rintro e w8 ⟨rfl, hb8⟩
                      have HV8 := Lib.hid (HV7.out.still hb8)
                      clear hb8 HV7
                      go_wp2
                      go_ret
                      exact ⟨rfl, HV8.out.below⟩
        · have d0 : decide (0 ≤ n) = false := decide_eq_false hn0
          have HVH : Hid (memB S n = false) := by show _ = _; rw [HSH.out, d0]; simp
          go_wp2_with fail
          obtain ⟨T4, hT4, hJ4⟩ := Hv.use [setA s S] _ HV.out
          have HT4 := Lib.hid hT4
          clear hT4 hJ4
          refine (has_at s S n _ HT4 HO).mono ?_
          rintro e w4 ⟨rfl, hb4⟩
          rw [HVH.out]
          have HV4 := Lib.hid (HV.out.still hb4)
          clear hb4 HV HT4
          try clear kr
          have k0 : w4.cell? ⟨P3, 0, none⟩ = some (.int .i64 x0) := by simpa using (HV4.out.blk (i := 2) rfl).cell 0
          have k1 : w4.cell? ⟨P3, 1, none⟩ = some (.int .i64 x1) := by simpa using (HV4.out.blk (i := 2) rfl).cell 1
          go_wp2_with fail
          refine (right_any (x0, x1) _ HX.out).mono ?_
          rintro e w5 ⟨rfl, hb5⟩
          have HV5 := Lib.hid (HV4.out.still hb5)
          clear hb5 HV4 k0 k1
          cases hmx : mayB (x0, x1)
          · have HF : Hid (meetsF S (x0, x1) = false) := by show _ = _; unfold meetsF; rw [hmx]; rfl
            obtain ⟨⟨hi1, hi2⟩, hi3, hi4⟩ := HX.out
            simp only [] at hi1 hi2 hi3 hi4
            have k0 : w5.cell? ⟨P3, 0, none⟩ = some (.int .i64 x0) := by simpa using (HV5.out.blk (i := 2) rfl).cell 0
            have k1 : w5.cell? ⟨P3, 1, none⟩ = some (.int .i64 x1) := by simpa using (HV5.out.blk (i := 2) rfl).cell 1
            clear hmx
            go_wp2_with fail
            obtain ⟨T4, hT4, hJ4⟩ := Hv.use [setA s S] _ HV5.out
            have HT4 := Lib.hid hT4
            clear hT4 hJ4
            refine (meets_any s S (x0, x1) _ HT4 HO hi3 hi4).mono ?_
            rintro e w6 ⟨rfl, hb6⟩
            rw [HF.out]
            have HV6 := Lib.hid (HV5.out.still hb6)
            clear hb6 HV5 HT4 k0 k1
            go_wp2_with fail
            refine (awake_any _).mono ?_
            rintro e w8 ⟨rfl, hb8⟩
            have HV8 := Lib.hid (HV6.out.still hb8)
            clear hb8 HV6
            go_wp2
            go_ret
            exact ⟨rfl, HV8.out.below⟩
          · have HMX := Lib.hid ((mayB_iff _).1 hmx)
            clear hmx
            obtain ⟨hx0, hx1, hx2⟩ := HMX.out
            unfold en at hx2
            simp only [] at hx0 hx1 hx2
            obtain ⟨a, rfl⟩ := Int.eq_ofNat_of_zero_le hx0
            have k0 : w5.cell? ⟨P3, 0, none⟩ = some (.int .i64 (a : Int)) := by simpa using (HV5.out.blk (i := 2) rfl).cell 0
            go_wp2_with fail
            clear k0
            go_loopw [15, 16] (fun m i wr => ∃ p q : Nat, Hid (p = a + q) ∧ i = .int .i64 p ∧ m = .bool (anyF f a q) ∧ ((q : Int) ≤ x1 ∧ ((p : Int) ≤ 200 ∨ q = 0)) ∧ Hid (Hv w No [setA s S, refA R f, blkA P3 26 #[.int .i64 (a : Int), .int .i64 x1]] wr)) (fun _ i _ => (a + x1).toNat - (intOf i).toNat)
            case atStart => exact ⟨a, 0, rfl, rfl, rfl, ⟨hx1, .inr rfl⟩, HV5⟩
            case round =>
              clear HV5
              obtain ⟨p, q, HP, rfl, rfl, ⟨hq1, hq2⟩, HV6⟩ := hrel
              have hp := HP.out
              obtain ⟨m, hm⟩ : ∃ m, m = anyF f a q := ⟨_, rfl⟩
              have HM := Lib.hid hm
              rw [← hm]
              clear hm
              have k0 : wr.cell? ⟨P3, 0, none⟩ = some (.int .i64 (a : Int)) := by simpa using (HV6.out.blk (i := 2) rfl).cell 0
              have k1 : wr.cell? ⟨P3, 1, none⟩ = some (.int .i64 x1) := by simpa using (HV6.out.blk (i := 2) rfl).cell 1
              have e7 : IntKind.i64.wrap ((a : Int) + x1) = a + x1 := IntWalk.i64_in _ (by omega)
              by_cases hc : (p : Int) < a + x1 ∧ (p : Int) < 200
              · have b1 : decide ((p : Int) < a + x1) = true := decide_eq_true hc.1
                have b2 : decide ((p : Int) < 200) = true := decide_eq_true hc.2
                have kr := ref_cell HV6.out (i := 1) rfl p (by omega)
                have HN1 : Hid (anyF f a (q + 1) = (m || f (p : Int))) := by show _ = _; rw [anyF_succ, HM.out, hp]; simp
                obtain ⟨u, hu⟩ : ∃ u, u = f (p : Int) := ⟨_, rfl⟩
                rw [← hu] at kr HN1
                clear hu
                obtain ⟨hc1, hc2⟩ := hc
                have hp2 : ¬ (p : Int) < 0 := by omega
                have hp3 : p < 200 := by omega
                have hpz : p + 1 = a + (q + 1) := by omega
                have HPZ := Lib.hid hpz
                have hq3 : ((q + 1 : Nat) : Int) ≤ x1 := by omega
                have HQ3 := Lib.hid hq3
                clear hp HM hpz hq3
                cases m
                all_goals
                  go_wp2_with fail
                  go_roundw
                  case rel => exact ⟨p + 1, q + 1, HPZ, by go_num, by rw [HN1.out]; simp, ⟨HQ3.out, .inl (by omega)⟩, HV6⟩
                  case measure => simp [intOf]; omega
              · have HEND : Hid (meetsF S ((a : Int), x1) = m) := by
                  show _ = _
                  rw [HS.out, HM.out]
                  refine anyF_meets (x := ((a : Int), x1)) HMX.out hq1 ?_ ?_
                  · rcases hq2 with h | h
                    · exact .inl (by show (a : Int) + (q : Int) ≤ 200; omega)
                    · exact .inr h
                  · show (q : Int) = x1 ∨ 200 ≤ (a : Int) + (q : Int)
                    omega
                obtain ⟨vc, hvc⟩ : ∃ vc, vc = decide ((p : Int) < a + x1) := ⟨_, rfl⟩
                have hb2 : vc = true → decide ((p : Int) < 200) = false := fun h => by
                  rw [hvc, decide_eq_true_eq] at h
                  exact decide_eq_false (by omega)
                have b1 := hvc.symm
                clear hvc hc HM HP hp
                obtain ⟨⟨hi1, hi2⟩, hi3, hi4⟩ := HX.out
                simp only [] at hi1 hi2 hi3 hi4
                cases vc
                all_goals
                  try have b2 := hb2 rfl
                  clear hb2
                  go_wp2_with fail
                  obtain ⟨T4, hT4, hJ4⟩ := Hv.use [setA s S] _ HV6.out
                  have HT4 := Lib.hid hT4
                  clear hT4 hJ4
                  refine (meets_any s S ((a : Int), x1) _ HT4 HO hi3 hi4).mono ?_
                  rintro e w7 ⟨rfl, hb7⟩
                  rw [HEND.out]
                  have HV7 := Lib.hid (HV6.out.still hb7)
                  clear hb7 HV6 HT4 k0 k1
                  cases m
                  all_goals
                    go_wp2_with fail
                    refine (awake_any _).mono ?_
                    rintro e w8 ⟨rfl, hb8⟩
                    have HV8 := Lib.hid (HV7.out.still hb8)
                    clear hb8 HV7
                    go_wp2
                    go_ret
                    exact ⟨rfl, HV8.out.below⟩
end Go.Proofs.Ytelkanfmhfopnaa

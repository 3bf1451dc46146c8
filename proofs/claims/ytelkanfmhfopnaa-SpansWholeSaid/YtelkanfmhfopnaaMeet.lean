/- The walk of SpansMeet. -/
import Derived.Test.YtelkanfmhfopnaaMoves
import Derived.Test.YtelkanfmhfopnaaTotal
import Derived.Test.YtelkanfmhfopnaaMeets2
namespace Go.Proofs.Ytelkanfmhfopnaa
open Go.RowKit Go.LawEnd

theorem has_at {T : Nat → Prop} (s : Nat) (l : List Sp) (n : Int) (w : World) (h : Hid (Sep [setA s l] w T)) (hok : Hid (OkS l)) :
    Calls Try.prog 21 #[.pointer (some ⟨s, 0, none⟩), .int .i64 n] w fun e w' => e = .returned (.bool (memB l n)) ∧ Below w.heap.size w w' := by
  have h1 := has_any s l n w h hok
  rw [show (decide (n < 1048576) && meetsF l (n, 1)) = memB l n from has_mem hok.out] at h1
  exact h1

set_option maxRecDepth 100000 in
set_option maxHeartbeats 6400000 in
theorem meet_main (A : Option Addr) (cp : Nat) (l : List Sp) (x : Sp) (w : World) (h : Hid (SpArg w A l)) (hln : l.length ≤ 9223372036854775807) (hi : Hid (∀ y ∈ l, I64 y)) (hx : I64 x) :
    Calls Try.prog 6 #[.slice A l.length cp, .agg #[.int .i64 x.1, .int .i64 x.2]] w (Yes w) := by
  obtain ⟨x0, x1⟩ := x
  have HX := Lib.hid hx
  obtain ⟨P3, hP3⟩ : ∃ y, y = w.heap.size := ⟨_, rfl⟩
  obtain ⟨V, hV⟩ : ∃ y, y = w.alloc (.cells #[.int .i64 x0, .int .i64 x1] 26) := ⟨_, rfl⟩
  have HW : Hid (Hv w No [blkA P3 26 #[.int .i64 x0, .int .i64 x1]] V) := by
    rw [hV, hP3]
    exact (Hv.begin w).alloc 26 #[.int .i64 x0, .int .i64 x1]
  have HA : Hid (SpArg V A l) := h.out.below HW.out.below
  clear hx
  go_enter Try.func6, Try.ntmps6
  go_wp2_with fail
  rw [← hV, ← hP3]
  clear hV hP3 h
  by_cases hm : ∀ y ∈ l, mayB y = true
  · refine (new_may A cp l V HA hln hi hm).mono ?_
    rintro e w1 ⟨s, rfl, h1⟩
    obtain ⟨S, hS⟩ : ∃ S, S = newF l := ⟨_, rfl⟩
    have HO : Hid (OkS S) := by show OkS S; rw [hS]; exact (newF_ok fun x hx => (mayB_iff x).1 (hm x hx)).1
    rw [← hS] at h1
    have HV1 : Hid (Hv w No [setA s S, blkA P3 26 #[.int .i64 x0, .int .i64 x1]] w1) := (HW.out.add h1).pick [0, 1]
    clear h1 HW hS hm HA
    have k0 : w1.cell? ⟨P3, 0, none⟩ = some (.int .i64 x0) := by simpa using (HV1.out.blk (i := 1) rfl).cell 0
    have k1 : w1.cell? ⟨P3, 1, none⟩ = some (.int .i64 x1) := by simpa using (HV1.out.blk (i := 1) rfl).cell 1
    by_cases hl : (40 : Int) < (l.length : Int)
    · have d0 : decide ((40 : Int) < (l.length : Int)) = true := decide_eq_true hl
      go_wp2_with fail
      refine (awake_any _).mono ?_
      rintro e w8 ⟨rfl, hb8⟩
      have HV8 := Lib.hid (HV1.out.still hb8)
      clear hb8 HV1
      go_wp2
      go_ret
      exact ⟨rfl, HV8.out.below⟩
    · have d0 : decide ((40 : Int) < (l.length : Int)) = false := decide_eq_false hl
      clear hl
      go_wp2_with fail
      refine (right_any (x0, x1) _ HX.out).mono ?_
      rintro e w2 ⟨rfl, hb2⟩
      have HV2 := Lib.hid (HV1.out.still hb2)
      clear hb2 HV1 k0 k1
      have k0 : w2.cell? ⟨P3, 0, none⟩ = some (.int .i64 x0) := by simpa using (HV2.out.blk (i := 1) rfl).cell 0
      have k1 : w2.cell? ⟨P3, 1, none⟩ = some (.int .i64 x1) := by simpa using (HV2.out.blk (i := 1) rfl).cell 1
      cases hmx : mayB (x0, x1)
      · go_wp2_with fail
        refine (awake_any _).mono ?_
        rintro e w8 ⟨rfl, hb8⟩
        have HV8 := Lib.hid (HV2.out.still hb8)
        clear hb8 HV2
        go_wp2
        go_ret
        exact ⟨rfl, HV8.out.below⟩
      · have HMX := Lib.hid ((mayB_iff _).1 hmx)
        have HMB := Lib.hid hmx
        clear hmx
        by_cases h2 : (200 : Int) < x1
        · have d2 : decide ((200 : Int) < x1) = true := decide_eq_true h2
          clear h2
          go_wp2_with fail
          refine (awake_any _).mono ?_
          rintro e w8 ⟨rfl, hb8⟩
          have HV8 := Lib.hid (HV2.out.still hb8)
          clear hb8 HV2
          go_wp2
          go_ret
          exact ⟨rfl, HV8.out.below⟩
        · have d2 : decide ((200 : Int) < x1) = false := decide_eq_false h2
          clear k0
          go_wp2_with fail
          clear d0 d2 k1
          obtain ⟨hx0, hx1, hx2⟩ := HMX.out
          unfold en at hx2
          simp only [] at hx0 hx1 hx2
          go_loopw [7, 8] (fun n i wr => ∃ k : Nat, (k : Int) ≤ x1 ∧ i = .int .i64 k ∧ n = .int .i64 (cnt (fun j => memB S (x0 + j)) k) ∧ Hid (Hv w No [setA s S, blkA P3 26 #[.int .i64 x0, .int .i64 x1]] wr)) (fun _ i _ => x1.toNat - (intOf i).toNat)
          case atStart => exact ⟨0, by omega, rfl, rfl, HV2⟩
          case round =>
            clear HV2
            obtain ⟨k, hk, rfl, rfl, HV⟩ := hrel
            have hkk := hk
            obtain ⟨n, hn⟩ : ∃ n, n = cnt (fun j => memB S (x0 + j)) k := ⟨_, rfl⟩
            have hr := cnt_range (p := fun j => memB S (x0 + j)) (m := k)
            have HN := Lib.hid hn
            rw [← hn] at hr ⊢
            clear hn
            have k0 : wr.cell? ⟨P3, 0, none⟩ = some (.int .i64 x0) := by simpa using (HV.out.blk (i := 1) rfl).cell 0
            have k1 : wr.cell? ⟨P3, 1, none⟩ = some (.int .i64 x1) := by simpa using (HV.out.blk (i := 1) rfl).cell 1
            by_cases hkl : (k : Int) < x1
            · have e7 : IntKind.i64.wrap (x0 + (k : Int)) = x0 + k := IntWalk.i64_in _ (by omega)
              have dl : decide ((k : Int) < x1) = true := decide_eq_true hkl
              go_wp2_with fail
              obtain ⟨T5, hT5, hJ5⟩ := Hv.use [setA s S] _ HV.out
              have HT5 := Lib.hid hT5
              clear hT5 hJ5
              refine (has_at s S (x0 + k) _ HT5 HO).mono ?_
              rintro e w3 ⟨rfl, hb3⟩
              have HV3 := Lib.hid (HV.out.still hb3)
              have HC : Hid (cnt (fun j => memB S (x0 + j)) (k + 1) = n + if memB S (x0 + k) = true then 1 else 0) := by show _ = _; rw [HN.out]; rfl
              clear hb3 HV HT5 k0 k1 HN
              cases hv : memB S (x0 + k)
              · rw [hv] at HC
                go_wp2_with fail
                go_roundw
                case rel => exact ⟨k + 1, by omega, by go_num, by rw [HC.out]; simp, HV3⟩
                case measure => simp [intOf]; omega
              · rw [hv] at HC
                go_wp2_with fail
                go_roundw
                case rel => exact ⟨k + 1, by omega, by go_num, by rw [HC.out]; go_num, HV3⟩
                case measure => simp [intOf]; omega
            · have dl : decide ((k : Int) < x1) = false := decide_eq_false hkl
              have HK : Hid (n = insideN S (x0, x1)) := by
                show _ = _
                rw [HN.out]; unfold insideN
                simp only []
                rw [show x1.toNat = k by omega]
              clear HN
              go_wp2_with fail
              have HTB := oks_total HO.out
              obtain ⟨T3, hT3, hJ3⟩ := Hv.use [setA s S] _ HV.out
              have HT3 := Lib.hid hT3
              clear hT3 hJ3
              refine (len_any s S _ HT3 HO).mono ?_
              rintro e w3 ⟨rfl, hb3⟩
              have HV3 := Lib.hid (HV.out.still hb3)
              clear hb3 HT3 HV k0 k1
              have k0 : w3.cell? ⟨P3, 0, none⟩ = some (.int .i64 x0) := by simpa using (HV3.out.blk (i := 1) rfl).cell 0
              have k1 : w3.cell? ⟨P3, 1, none⟩ = some (.int .i64 x1) := by simpa using (HV3.out.blk (i := 1) rfl).cell 1
              go_wp2_with fail
              obtain ⟨T4, hT4, hJ4⟩ := Hv.use [setA s S] _ HV3.out
              have HT4 := Lib.hid hT4
              clear hT4 hJ4
              refine (meets_any s S (x0, x1) _ HT4 HO (by simp only []; omega) (by simp only []; omega)).mono ?_
              rintro e w4 ⟨rfl, hb4⟩
              rw [show meetsF S (x0, x1) = decide (0 < n) by rw [HK.out]; exact meets_inside HO.out HMX.out]
              have HV4 := Lib.hid (HV3.out.still hb4)
              clear hb4 HT4 HV3 k0 k1
              have k0 : w4.cell? ⟨P3, 0, none⟩ = some (.int .i64 x0) := by simpa using (HV4.out.blk (i := 1) rfl).cell 0
              have k1 : w4.cell? ⟨P3, 1, none⟩ = some (.int .i64 x1) := by simpa using (HV4.out.blk (i := 1) rfl).cell 1
              go_wp2_with fail
              obtain ⟨T5, hT5, hJ5⟩ := Hv.use [setA s S] _ HV4.out
              have HT5 := Lib.hid hT5
              refine (add_may s S (x0, x1) _ HT5 HO HMB.out).mono ?_
              rintro e w5 ⟨rfl, h5⟩
              obtain ⟨S2, hS2⟩ : ∃ S2, S2 = addF S (x0, x1) := ⟨_, rfl⟩
              have HO2 : Hid (OkS S2) := by show OkS S2; rw [hS2]; exact (add_ok HO.out HMX.out).1
              have HT2 : Hid (total S2 = total S + x1 - n) := by show _ = _; rw [hS2, HK.out]; exact total_add HO.out HMX.out
              have HT3 : Hid (total (cutF S2 (x0, x1)) = total S - n) := by show _ = _; rw [hS2, HK.out]; exact total_add_cut HO.out HMX.out
              rw [← hS2] at h5
              have HV5 : Hid (Hv w No [setA s S2, blkA P3 26 #[.int .i64 x0, .int .i64 x1]] w5) := hJ5 _ _ h5
              clear hT5 hJ5 HT5 HV4 hS2 h5 k0 k1
              have k0 : w5.cell? ⟨P3, 0, none⟩ = some (.int .i64 x0) := by simpa using (HV5.out.blk (i := 1) rfl).cell 0
              have k1 : w5.cell? ⟨P3, 1, none⟩ = some (.int .i64 x1) := by simpa using (HV5.out.blk (i := 1) rfl).cell 1
              go_wp2_with fail
              obtain ⟨T6, hT6, hJ6⟩ := Hv.use [setA s S2] _ HV5.out
              have HT6 := Lib.hid hT6
              clear hT6 hJ6
              refine (len_any s S2 _ HT6 HO2).mono ?_
              rintro e w6 ⟨rfl, hb6⟩
              rw [HT2.out]
              have HV6 := Lib.hid (HV5.out.still hb6)
              clear hb6 HT6 HV5 k0 k1
              have k0 : w6.cell? ⟨P3, 0, none⟩ = some (.int .i64 x0) := by simpa using (HV6.out.blk (i := 1) rfl).cell 0
              have k1 : w6.cell? ⟨P3, 1, none⟩ = some (.int .i64 x1) := by simpa using (HV6.out.blk (i := 1) rfl).cell 1
              go_wp2_with fail
              obtain ⟨T7, hT7, hJ7⟩ := Hv.use [setA s S2] _ HV6.out
              have HT7 := Lib.hid hT7
              refine (cut_may s S2 (x0, x1) _ HT7 HO2 HMB.out).mono ?_
              rintro e w7 ⟨rfl, h7⟩
              obtain ⟨S3, hS3⟩ : ∃ S3, S3 = cutF S2 (x0, x1) := ⟨_, rfl⟩
              have HO3 : Hid (OkS S3) := by show OkS S3; rw [hS3]; exact (cut_ok HO2.out HMX.out).1
              rw [← hS3] at h7 HT3
              have HV7 : Hid (Hv w No [setA s S3, blkA P3 26 #[.int .i64 x0, .int .i64 x1]] w7) := hJ7 _ _ h7
              clear hT7 hJ7 HT7 HV6 hS3 h7 k0 k1
              have k1 : w7.cell? ⟨P3, 1, none⟩ = some (.int .i64 x1) := by simpa using (HV7.out.blk (i := 1) rfl).cell 1
              obtain ⟨t, ht⟩ : ∃ t, t = total S := ⟨_, rfl⟩
              rw [← ht] at HTB HT3 ⊢
              clear ht
              have a1 : IntKind.i64.wrap (t + x1) = t + x1 := IntWalk.i64_in _ (by omega)
              have a2 : IntKind.i64.wrap (t + x1 - n) = t + x1 - n := IntWalk.i64_in _ (by omega)
              have a3 : IntKind.i64.wrap (t - n) = t - n := IntWalk.i64_in _ (by omega)
              clear dl
              go_wp2_with fail
              obtain ⟨T8, hT8, hJ8⟩ := Hv.use [setA s S3] _ HV7.out
              have HT8 := Lib.hid hT8
              clear hT8 hJ8
              refine (len_any s S3 _ HT8 HO3).mono ?_
              rintro e w8 ⟨rfl, hb8⟩
              rw [HT3.out]
              have HV8 := Lib.hid (HV7.out.still hb8)
              clear hb8 HT8 HV7 k1
              go_wp2_with fail
              refine (awake_any _).mono ?_
              rintro e w9 ⟨rfl, hb9⟩
              have HV9 := Lib.hid (HV8.out.still hb9)
              clear hb9 HV8
              go_wp2
              go_ret
              exact ⟨rfl, HV9.out.below⟩
  · have hmn : ∃ y ∈ l, mayB y = false := by
      simp only [Classical.not_forall] at hm
      obtain ⟨y, hy, hm⟩ := hm
      exact ⟨y, hy, by simpa using hm⟩
    refine (new_not A cp l V HA hln hi hmn).mono ?_
    rintro e w1 ⟨rfl, hb1⟩
    have HV1 := Lib.hid (HW.out.still hb1)
    clear hb1 HW hm hmn HA
    obtain ⟨v, hv⟩ : ∃ v, v = decide ((40 : Int) < (l.length : Int)) := ⟨_, rfl⟩
    cases v
    all_goals
      have hv2 := hv.symm
      clear hv
      go_wp2_with fail
      refine (awake_any _).mono ?_
      rintro e w8 ⟨rfl, hb8⟩
      have HV8 := Lib.hid (HV1.out.still hb8)
      clear hb8 HV1
      go_wp2
      go_ret
      exact ⟨rfl, HV8.out.below⟩
end Go.Proofs.Ytelkanfmhfopnaa

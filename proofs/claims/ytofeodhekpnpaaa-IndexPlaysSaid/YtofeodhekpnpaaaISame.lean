/- The walk of the law's same. -/
import Derived.Test.YtofeodhekpnpaaaIAll
namespace Go.Proofs.Ytofeodhekpnpaaa
open Go.RowKit Go.LawEnd

theorem neq_pl (a : Int) (b : Bool) (c : Int) (d : Bool) (w : World) : (binOp BinOp.neq 35 (.agg #[.int .i64 a, .bool b]) (.agg #[.int .i64 c, .bool d])).run Try.prog w = .ok (.bool (!decide ((a, b) = (c, d)))) w := by
  rw [run_neq_struct, show (10000 : Nat) = 9999 + 1 from rfl, run_equalIn_struct w 9999 _ _ _ (by kernel_rfl) (by kernel_rfl)]
  go_simp
  by_cases h1 : a = c <;> by_cases h2 : b = d <;> simp [h1, h2]
theorem neq_self (a : Int) (b : Bool) (w : World) : (binOp BinOp.neq 35 (.agg #[.int .i64 a, .bool b]) (.agg #[.int .i64 a, .bool b])).run Try.prog w = .ok (.bool false) w := by
  rw [neq_pl]; simp
theorem some_inB {slots : Nat} {l : Pls} (hF : Fit slots l) : ((l.filter some_).length : Int) = cn inB l l.length := by
  unfold cn
  rw [List.take_length]
  congr 2
  refine List.filter_congr fun p hp => ?_
  rcases hF p hp with e | ⟨a, _⟩
  · rw [e]; rfl
  · unfold some_ inB
    rw [decide_eq_true a]
    have : (p.1 == -1) = false := by rw [beq_eq_false_iff_ne]; omega
    simp [this]
theorem dirt_cn (l : Pls) : ((l.filter dirt_).length : Int) = cn dirt_ l l.length := by
  unfold cn
  rw [List.take_length]

set_option maxRecDepth 100000 in
set_option maxHeartbeats 1600000 in
theorem same_any {w : World} {x r slots n0 : Nat} {l : Pls} {f : Ats} {T : Nat → Prop} (h : Hid (Sep [idxA x n0 l f slots, refA r slots l] w T)) (hok : Hid (Ok slots l f)) (hl : l.length ≤ 4096) (hs : slots ≤ 1024) :
    Calls Try.prog 22 #[.pointer (some ⟨x, 0, none⟩), .pointer (some ⟨r, 0, none⟩)] w fun e w' => e = .returned (.bool true) ∧ Below w.heap.size w w' := by
  have hne := neq_self
  have HSI : Hid (∀ W : World, Below w.heap.size w W → ∃ T', Sep [idxA x n0 l f slots] W T') := fun W hb => by
    obtain ⟨T', hT', _⟩ := Hv.use [idxA x n0 l f slots] _ ((Hv.start h.out).still hb)
    exact ⟨T', hT'⟩
  have HSR : Hid (∀ W : World, Below w.heap.size w W → ∃ T', Sep [refA r slots l] W T') := fun W hb => by
    obtain ⟨T', hT', _⟩ := Hv.use [refA r slots l] _ (show Hv w T ([refA r slots l] ++ [idxA x n0 l f slots]) W from ((Hv.start h.out).still hb).pick [1, 0])
    exact ⟨T', hT'⟩
  have HSA : Hid (∀ W : World, Below w.heap.size w W → ∃ T', Sep [idxA x n0 l f slots, refA r slots l] W T') := fun W hb => by
    obtain ⟨T', hT', _⟩ := ((Hv.start h.out).still hb).all
    exact ⟨T', hT'⟩
  have HRI : Hid (∀ W : World, Below w.heap.size w W → ∃ vS vD, RI 0 W r l.length slots vS vD (l.map (·.1)) (l.map (·.2))) := fun W hb => by
    obtain ⟨T', hT'⟩ := HSR.out W hb
    obtain ⟨vS, vD, hv⟩ := ref_open (Hv.start hT')
    exact ⟨vS, vD, hv_ri hv⟩
  go_enter Try.func22, Try.ntmps22
  go_wp2_with fail
  obtain ⟨T1, hT1⟩ := HSR.out w (Below.refl _ _)
  refine (rcount_a hT1 hl).mono ?_
  rintro e w' ⟨rfl, rfl⟩
  obtain ⟨c1, hc1⟩ : ∃ c, c = cn inB l l.length := ⟨_, rfl⟩
  obtain ⟨c2, hc2⟩ : ∃ c, c = cn dirt_ l l.length := ⟨_, rfl⟩
  have HL1 : Hid (((l.filter some_).length : Int) = c1) := by show _ = _; rw [hc1]; exact some_inB hok.out.fit
  have HL2 : Hid (((l.filter dirt_).length : Int) = c2) := by show _ = _; rw [hc2]; exact dirt_cn l
  rw [← hc1, ← hc2]
  clear hc1 hc2 hT1
  go_wp2_with fail
  obtain ⟨T2, hT2⟩ := HSI.out w (Below.refl _ _)
  refine (len_a hT2 hok.out hl).mono ?_
  rintro e w2 ⟨rfl, hb2⟩
  rw [HL1.out]
  have HB2 := Lib.hid hb2
  clear hb2 hT2
  go_wp2_with fail
  obtain ⟨T3, hT3⟩ := HSI.out w2 HB2.out
  refine (dirty_a hT3 hl).mono ?_
  rintro e w3 ⟨rfl, hb3⟩
  rw [HL2.out]
  have HB3 := Lib.hid (HB2.out.trans (hb3.mono HB2.out.size))
  clear hb3 HB2 hT3
  go_wp2_with fail
  obtain ⟨T4, hT4⟩ := HSA.out w3 HB3.out
  refine (lall_any 0 4096 hT4 hok hl (by omega) (by omega)).mono ?_
  rintro e w4 ⟨rfl, hb4⟩
  have HB4 := Lib.hid (HB3.out.trans (hb4.mono HB3.out.size))
  clear hb4 HB3 hT4
  go_wp2_with fail
  go_loopw [7, 8, 9] (fun v _ _ wr => ∃ k : Nat, k ≤ l.length + 2 ∧ v = .int .i64 ((k : Int) - 1) ∧ Hid (Below w.heap.size w wr)) (fun v _ _ _ => l.length + 3 - ((intOf v) + 1).toNat)
  case atStart => exact ⟨0, by omega, by simp, HB4⟩
  case round =>
    clear HB4
    obtain ⟨k, hk, rfl, HB⟩ := hrel
    obtain ⟨vS, vD, hri⟩ := HRI.out wr HB.out
    have HR := Lib.hid hri
    clear hri
    obtain ⟨AS, cS, rfl⟩ := HR.out.formS
    have c0 : wr.cell? ⟨r, 0, none⟩ = some (.slice AS l.length cS) := by simpa using HR.out.head.cell 0
    obtain ⟨b, hb⟩ : ∃ b : Int, b = (k : Int) - 1 := ⟨_, rfl⟩
    rw [← hb]
    by_cases hkl : b ≤ (l.length : Int)
    · have d1 : decide (b ≤ (l.length : Int)) = true := decide_eq_true hkl
      have e7 : IntKind.i64.wrap (b + 1) = b + 1 := IntWalk.i64_in _ (by omega)
      have hb1 : b + 1 = ((k + 1 : Nat) : Int) - 1 := by omega
      have HB1 := Lib.hid hb1
      have hbk : (b + 1).toNat = k := by omega
      have HBK := Lib.hid hbk
      have HBb := Lib.hid hb
      clear hb1 hbk hb
      go_wp2_with fail
      clear c0
      obtain ⟨T5, hT5⟩ := HSI.out wr HB.out
      refine (get_a b hT5 hok.out).mono ?_
      rintro e w5 ⟨rfl, hb5⟩
      have HB5 := Lib.hid (HB.out.trans (hb5.mono HB.out.size))
      clear hb5 hT5 HB HR
      obtain ⟨g1, hg1⟩ : ∃ y, y = (getF l b).1 := ⟨_, rfl⟩
      obtain ⟨g2, hg2⟩ : ∃ y, y = (getF l b).2.1 := ⟨_, rfl⟩
      obtain ⟨g3, hg3⟩ : ∃ y, y = (getF l b).2.2 := ⟨_, rfl⟩
      rw [← hg1, ← hg2, ← hg3]
      have HG1 := Lib.hid hg1
      have HG2 := Lib.hid hg2
      have HG3 := Lib.hid hg3
      clear hg1 hg2 hg3
      obtain ⟨P8, hP8⟩ : ∃ y, y = w5.heap.size := ⟨_, rfl⟩
      obtain ⟨V, hV⟩ : ∃ y, y = w5.alloc (.cells #[.int .i64 g1, .bool g2] 35) := ⟨_, rfl⟩
      have HBV : Hid (Below w.heap.size w V) := by rw [hV]; exact HB5.out.trans (((Below.refl w5.heap.size w5).alloc (Nat.le_refl _) _).mono HB5.out.size)
      have HK : Hid (Blk V P8 35 #[.int .i64 g1, .bool g2]) := by rw [hV, hP8]; exact Blk.new _ _ _
      go_wp2_with fail
      rw [← hV, ← hP8]
      clear hV hP8 HB5
      obtain ⟨T6, hT6⟩ := HSR.out V HBV.out
      refine (rright_a b hT6).mono ?_
      rintro e w' ⟨rfl, rfl⟩
      clear hT6
      have k0 : V.cell? ⟨P8, 0, none⟩ = some (.int .i64 g1) := by simpa using HK.out.cell 0
      have k1 : V.cell? ⟨P8, 1, none⟩ = some (.bool g2) := by simpa using HK.out.cell 1
      by_cases hin : b < 0 ∨ (l.length : Int) ≤ b
      · rw [show (decide (0 ≤ b) && decide (b < (l.length : Int))) = false by
          rw [Bool.and_eq_false_iff, decide_eq_false_iff_not, decide_eq_false_iff_not]; omega]
        have hget : getF l b = (0, false, 10) := by unfold getF; rw [if_pos hin]
        obtain rfl : g1 = 0 := by rw [HG1.out, hget]
        obtain rfl : g2 = false := by rw [HG2.out, hget]
        obtain rfl : g3 = 10 := by rw [HG3.out, hget]
        clear hget HG1 HG2 HG3 hin
        go_wp2_with fail
        go_roundw
        case rel => exact ⟨k + 1, by have := HBb.out; omega, by rw [HB1.out], HBV⟩
        case measure => simp only [intOf]; have := HBb.out; omega
      · obtain ⟨j, rfl⟩ : ∃ j : Nat, b = j := ⟨b.toNat, by omega⟩
        have hj : j < l.length := by omega
        rw [show (decide (0 ≤ (j : Int)) && decide ((j : Int) < (l.length : Int))) = true by
          rw [Bool.and_eq_true, decide_eq_true_eq, decide_eq_true_eq]; omega]
        obtain ⟨vS, vD, hri⟩ := HRI.out V HBV.out
        have HR := Lib.hid hri
        clear hri
        obtain ⟨gS, cS, gD, cD, rfl, rfl, kS, _, kD, _⟩ := ref_cells HR j hj
        have c0 : V.cell? ⟨r, 0, none⟩ = some (.slice (some ⟨gS, 0, none⟩) l.length cS) := by simpa using HR.out.head.cell 0
        have c1 : V.cell? ⟨r, 1, none⟩ = some (.slice (some ⟨gD, 0, none⟩) l.length cD) := by simpa using HR.out.head.cell 1
        have hpl := pl_at hj
        have hget : getF l (j : Int) = if l[j] = (-1, false) then (0, false, 14) else (l[j].1, l[j].2, 0) := by unfold getF; rw [if_neg hin, hpl]
        have hfit := hok.out.fit l[j] (List.getElem_mem hj)
        obtain ⟨p, hp⟩ : ∃ p, p = l[j] := ⟨_, rfl⟩
        rw [← hp] at kS kD hget hfit
        obtain ⟨p0, p1⟩ := p
        simp only [] at kS kD hfit
        have i0 : (0 : Int) ≤ (j : Int) := by omega
        have i1 : (j : Int) < (l.length : Int) := by omega
        by_cases hpn : ((p0, p1) : Int × Bool) = (-1, false)
        · rw [if_pos hpn] at hget
          injection hpn with hp0 hp1
          subst hp0 hp1
          obtain rfl : g1 = 0 := by rw [HG1.out, hget]
          obtain rfl : g2 = false := by rw [HG2.out, hget]
          obtain rfl : g3 = 14 := by rw [HG3.out, hget]
          clear hget HG1 HG2 HG3 hin hp hpl hfit HR
          go_wp2_with fail
          go_roundw
          case rel => exact ⟨k + 1, by have := HBb.out; omega, by rw [HB1.out], HBV⟩
          case measure => simp only [intOf]; have := HBb.out; omega
        · rw [if_neg hpn] at hget
          have d3 : decide (p0 < 0) = false := by
            rcases hfit with e | ⟨a, _⟩
            · exact absurd e hpn
            · exact decide_eq_false (by omega)
          obtain rfl : g1 = p0 := by rw [HG1.out, hget]
          obtain rfl : g2 = p1 := by rw [HG2.out, hget]
          obtain rfl : g3 = 0 := by rw [HG3.out, hget]
          have hV : ∀ q : ExtB V.heap.size V, Below V.heap.size V q.w := fun q => q.below
          have lk := HK.out.lt
          have lr := HR.out.head.lt
          have lS := (HR.out.rowS.lt gS rfl).2
          have lD := (HR.out.rowD.lt gD rfl).2
          have q0 : ∀ q : ExtB V.heap.size V, q.w.cell? ⟨P8, 0, none⟩ = some (.int .i64 g1) := fun q => (q.below.cell (p := ⟨P8, 0, none⟩) lk).trans k0
          have q1 : ∀ q : ExtB V.heap.size V, q.w.cell? ⟨P8, 1, none⟩ = some (.bool g2) := fun q => (q.below.cell (p := ⟨P8, 1, none⟩) lk).trans k1
          have q2 : ∀ q : ExtB V.heap.size V, q.w.cell? ⟨r, 0, none⟩ = some (.slice (some ⟨gS, 0, none⟩) l.length cS) := fun q => (q.below.cell (p := ⟨r, 0, none⟩) lr).trans c0
          have q3 : ∀ q : ExtB V.heap.size V, q.w.cell? ⟨r, 1, none⟩ = some (.slice (some ⟨gD, 0, none⟩) l.length cD) := fun q => (q.below.cell (p := ⟨r, 1, none⟩) lr).trans c1
          have q4 : ∀ q : ExtB V.heap.size V, q.w.cell? ⟨gS, j, none⟩ = some (.int .i64 g1) := fun q => (q.below.cell (p := ⟨gS, j, none⟩) lS).trans kS
          have q5 : ∀ q : ExtB V.heap.size V, q.w.cell? ⟨gD, j, none⟩ = some (.bool g2) := fun q => (q.below.cell (p := ⟨gD, j, none⟩) lD).trans kD
          clear hget HG1 HG2 HG3 hin hp hpl hfit hpn hV lk lr lS lD
          go_wp2_with fail
          refine wp_region_quiet_below (by kernel_rfl) (by kernel_rfl) ?_
          repeat (go_big_quiet_step (fail))
          refine wpQuiet_nil ?_
          intro W2 hw2
          obtain ⟨q, hq⟩ := hw2
          have hb2 := q.below
          rw [← hq] at hb2
          clear hq q
          have HBW := Lib.hid (HBV.out.trans (hb2.mono HBV.out.size))
          clear hb2 q0 q1 q2 q3 q4 q5 c0 c1 kS kD k0 k1 HR HK HBV d3
          go_wp2_with fail
          go_roundw
          case rel => exact ⟨k + 1, by have := HBb.out; omega, by rw [HB1.out], HBW⟩
          case measure => simp only [intOf]; have := HBb.out; omega
    · have d1 : decide (b ≤ (l.length : Int)) = false := decide_eq_false hkl
      have c2 : wr.cell? ⟨r, 2, none⟩ = some (.int .i64 (slots : Int)) := by simpa using HR.out.head.cell 2
      clear hkl hb
      go_wp2_with fail
      clear d1 c0 c2 HR
      go_loopw [10, 11, 12, 13] (fun v _ _ _ wr => ∃ s : Nat, s ≤ slots ∧ v = .int .i64 s ∧ Hid (Below w.heap.size w wr)) (fun v _ _ _ _ => slots - (intOf v).toNat)
      case atStart => exact ⟨0, by omega, rfl, HB⟩
      case round =>
        clear HB
        obtain ⟨s, hs2, rfl, HB⟩ := hrel
        obtain ⟨vS, vD, hri⟩ := HRI.out wr HB.out
        have c2 : wr.cell? ⟨r, 2, none⟩ = some (.int .i64 (slots : Int)) := by simpa using hri.head.cell 2
        clear hri
        by_cases hsl : s < slots ∧ s < 20
        · have d1 : decide ((s : Int) < (slots : Int)) = true := decide_eq_true (by omega)
          have d2 : decide ((s : Int) < 20) = true := decide_eq_true (by omega)
          have hss := hsl.1
          clear hsl
          go_wp2_with fail
          obtain ⟨T5, hT5⟩ := HSI.out wr HB.out
          refine (at_a (s : Int) hT5 hs (by omega) (by omega)).mono ?_
          rintro e w5 ⟨rfl, hb5⟩
          have HB5 := Lib.hid (HB.out.trans (hb5.mono HB.out.size))
          clear hb5 hT5 HB c2
          obtain ⟨o, ho⟩ : ∃ o, o = f (s : Int) := ⟨_, rfl⟩
          have HO := Lib.hid ho
          rw [← ho]
          clear ho
          cases o with
          | none =>
            go_wp2_with fail
            obtain ⟨T6, hT6⟩ := HSR.out w5 HB5.out
            refine (rat_a (s : Int) hT6 hok.out hl (by omega)).mono ?_
            rintro e w' ⟨rfl, rfl⟩
            rw [← HO.out]
            clear hT6
            go_wp2_with fail
            go_roundw
            case rel => exact ⟨s + 1, by omega, by go_num, HB5⟩
            case measure => simp [intOf]; omega
          | some o =>
            have ho0 : 0 ≤ o := by obtain ⟨_, i, rfl, _⟩ := (hok.out.map (s : Int) o).1 HO.out.symm; omega
            have d3 : decide (o < 0) = false := decide_eq_false (by omega)
            have d4 : decide (0 ≤ o) = true := decide_eq_true ho0
            go_wp2_with fail
            obtain ⟨T6, hT6⟩ := HSR.out w5 HB5.out
            refine (rat_a (s : Int) hT6 hok.out hl (by omega)).mono ?_
            rintro e w' ⟨rfl, rfl⟩
            rw [← HO.out]
            clear hT6
            go_wp2_with fail
            go_roundw
            case rel => exact ⟨s + 1, by omega, by go_num, HB5⟩
            case measure => simp [intOf]; omega
        · obtain ⟨v1, hv1⟩ : ∃ v1, decide ((s : Int) < (slots : Int)) = v1 := ⟨_, rfl⟩
          have hv2 : v1 = true → decide ((s : Int) < 20) = false := fun e => by
            rw [← hv1, decide_eq_true_eq] at e
            exact decide_eq_false (by omega)
          clear hsl
          have hv3 : decide (s < slots) = v1 := by rw [← hv1]; simp
          cases v1
          · clear hv2
            go_wp2_with fail
            go_ret
            exact ⟨rfl, HB.out⟩
          · have d2 := hv2 rfl
            clear hv2
            go_wp2_with fail
            go_ret
            exact ⟨rfl, HB.out⟩
end Go.Proofs.Ytofeodhekpnpaaa

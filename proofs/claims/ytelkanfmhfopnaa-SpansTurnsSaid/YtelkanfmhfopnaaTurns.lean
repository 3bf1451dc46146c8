/- The walk of SpansTurns. Printed by gen_turns.py. -/
import Derived.Test.YtelkanfmhfopnaaAwake
import Derived.Test.YtelkanfmhfopnaaTurnsPlain
namespace Go.Proofs.Ytelkanfmhfopnaa
open Go.RowKit Go.LawEnd

theorem row_arg {w0 w : World} {S : Nat → Prop} {L : List Atom} {A : Option Addr} {c n i : Nat} {l : List Sp} (h : Hv w0 S L w) (hi : L[i]? = some (rowA (.slice A n c) 26 2 l.length (sps l))) : SpArg w A l := by
  obtain ⟨A', c', e, h'⟩ := SpArg.of_own (h.row hi)
  injection e with e1 _ _
  rw [e1]; exact h'
theorem app_two {w0 W : World} {S : Nat → Prop} {L : List Atom} {v : Value} {l : List Sp} (h : Hv w0 S (rsA v l :: L) W) (te : TypeId) (hl : l.length ≤ 4000000) (p q : Sp) :
    ∃ g cap w', (Builtin.append_ #[22, 22] 22 #[v, .slice (some ⟨W.heap.size, 0, none⟩) 2 2]).run Try.prog (W.alloc (.cells #[.int .i64 p.1, .int .i64 p.2, .int .i64 q.1, .int .i64 q.2] te)) = .ok (.slice (some ⟨g, 0, none⟩) (l.length + 2) cap) w' ∧
      Hv w0 S (rsA (.slice (some ⟨g, 0, none⟩) (l.length + 2) cap) (l ++ [p, q]) :: L) w' := by
  obtain ⟨i0, hi0, hz0, hz1, hz2⟩ := info_parts infoSp
  obtain ⟨g, cap, w', h1, h2, _, _⟩ := h.append (P := Try.prog) 22 22 te (i := i0) (bytes := 16) Try.underlying22 hi0 hz0 hz1 hz2 rfl (by omega) 2 (by omega) #[.int .i64 p.1, .int .i64 p.2, .int .i64 q.1, .int .i64 q.2] rfl (by
    intro u hu
    simp only [List.mem_cons, List.not_mem_nil, or_false] at hu
    rcases hu with rfl | rfl | rfl | rfl <;> rfl) (by unfold maxLen; omega) (by omega)
  refine ⟨g, cap, w', h1, ?_⟩
  have e1 : (l ++ [p, q]).length = l.length + 2 := by simp
  unfold rsA
  rw [e1, sps_append]
  exact h2
/-- where the turning begins -/
def rst (from_ : Int) (n : Nat) : Nat := ((from_.tmod n + n).tmod n).toNat
theorem rst_facts (from_ : Int) {n : Nat} (hn : 0 < n) : (from_.tmod n + n).tmod n = (rst from_ n : Int) ∧ rst from_ n < n ∧ (-(n : Int) < from_.tmod n ∧ from_.tmod n < n) := by
  have hp : (0 : Int) < n := by omega
  have h1 := Int.tmod_lt_of_pos from_ hp
  have h2 := tmod_gt from_ hp
  have h4 := Int.tmod_nonneg (n : Int) (a := from_.tmod n + n) (by omega)
  have h5 := Int.tmod_lt_of_pos (from_.tmod n + n) hp
  unfold rst
  omega

theorem far_cases {y0 y1 : Int} (h : farB (y0, y1) = true) : (decide (1099511627776 < y0) = true) ∨ (decide (1099511627776 < y0) = false ∧ decide (1099511627776 < y1) = true) ∨ (decide (1099511627776 < y0) = false ∧ decide (1099511627776 < y1) = false ∧ decide (y0 < 0) = true) ∨
    (decide (1099511627776 < y0) = false ∧ decide (1099511627776 < y1) = false ∧ decide (y0 < 0) = false ∧ decide (y1 < 0) = true) := by
  unfold farB at h
  simp only [] at h
  generalize decide (1099511627776 < y0) = a at *
  generalize decide (1099511627776 < y1) = b at *
  generalize decide (y0 < 0) = c at *
  generalize decide (y1 < 0) = d at *
  revert h
  cases a <;> cases b <;> cases c <;> cases d <;> simp
theorem near_cases {y0 y1 : Int} (h : farB (y0, y1) = false) : decide (1099511627776 < y0) = false ∧ decide (1099511627776 < y1) = false ∧ decide (y0 < 0) = false ∧ decide (y1 < 0) = false := by
  unfold farB at h
  simp only [Bool.or_eq_false_iff] at h
  exact ⟨h.1.1.1, h.1.1.2, h.1.2, h.2⟩

set_option maxRecDepth 100000 in
set_option maxHeartbeats 6400000 in
theorem turns_main (A : Option Addr) (cp : Nat) (l : List Sp) (from_ at_ : Int) (w : World) (h : Hid (SpArg w A l)) (hl : l.length ≤ 40) (hl0 : 0 < l.length) (hi : Hid (∀ y ∈ l, I64 y)) :
    Calls Try.prog 4 #[.slice A l.length cp, .int .i64 from_, .int .i64 at_] w (Yes w) := by
  obtain ⟨r1, r2, r3, r4⟩ := rst_facts from_ hl0
  obtain ⟨R, hR⟩ : ∃ R, R = rst from_ l.length := ⟨_, rfl⟩
  rw [← hR] at r1 r2
  clear hR
  obtain ⟨q1, hq1⟩ : ∃ q, from_.tmod (l.length : Int) = q := ⟨_, rfl⟩
  rw [hq1] at r1 r3 r4
  have d0 : decide ((40 : Int) < (l.length : Int)) = false := decide_eq_false (by omega)
  have d1 : ((l.length : Int) == 0) = false := by rw [beq_eq_false_iff_ne]; omega
  go_enter Try.func4, Try.ntmps4
  go_wp2_with fail
  refine (new_any A cp l w h (by omega) hi).mono ?_
  intro e w1 hN
  have HN : Hid (∃ p : Option Addr, ∃ ec : Int, e = .returned (.tuple #[.pointer p, .int .i64 ec]) ∧ ((∀ y ∈ l, mayB y = true) ∧ ec = 0 ∧ (∃ s, p = some ⟨s, 0, none⟩ ∧ Hv w No [setA s (newF l)] w1) ∨ (∃ y ∈ l, mayB y = false) ∧ ec = 10 ∧ p = none ∧ Below w.heap.size w w1)) := by
    rcases hN with ⟨ha, s, he, h1⟩ | ⟨hn, he, hb⟩
    · exact ⟨_, 0, he, .inl ⟨ha, rfl, s, rfl, h1⟩⟩
    · exact ⟨none, 10, he, .inr ⟨hn, rfl, rfl, hb⟩⟩
  clear hN
  obtain ⟨p, ec, rfl, hN⟩ := HN.out
  have HNN := Lib.hid hN
  clear hN HN
  obtain ⟨L0, HL0⟩ : ∃ L0 : List Atom, Hid (Hv w No L0 w1 ∧ ((∀ y ∈ l, mayB y = true) ∧ ec = 0 ∧ (∃ s, p = some ⟨s, 0, none⟩ ∧ L0 = [setA s (newF l)]) ∨ (∃ y ∈ l, mayB y = false) ∧ ec = 10 ∧ p = none ∧ L0 = [])) := by
    rcases HNN.out with ⟨ha, he, s, hp, h1⟩ | ⟨hn, he, hp, hb⟩
    · exact ⟨_, h1, .inl ⟨ha, he, s, hp, rfl⟩⟩
    · exact ⟨[], (Hv.begin w).still hb, .inr ⟨hn, he, hp, rfl⟩⟩
  have HV1 := Lib.hid HL0.out.1
  have HCS := Lib.hid HL0.out.2
  clear HL0 HNN
  go_wp2_with fail
  go_loopw [10, 11] (fun v10 i wr => ∃ k : Nat, k ≤ l.length ∧ i = .int .i64 k ∧ Hv w No (rsA v10 (turned at_ l R k) :: L0) wr) (fun _ i _ => l.length - (intOf i).toNat)
  case atStart => exact ⟨0, by omega, rfl, HV1.out.nilRow 26 2⟩
  case round =>
    obtain ⟨k, hk, rfl, HI⟩ := hrel
    have HV := Lib.hid HI
    clear HI HV1
    by_cases hkl : k < l.length
    · have hJ : (R + k) % l.length < l.length := Nat.mod_lt _ hl0
      obtain ⟨J, hJe⟩ : ∃ J, J = (R + k) % l.length := ⟨_, rfl⟩
      have t3 : ((R : Int) + (k : Int)).tmod (l.length : Int) = (J : Int) := by
        rw [hJe, show ((R : Int) + (k : Int)) = ((R + k : Nat) : Int) by omega, Int.ofNat_tmod]
      have hts := turned_succ at_ l R k hJ
      rw [← hJe] at hJ
      obtain ⟨b, off, rfl, hb, c0, c1⟩ := h.out J hJ
      have hil := hi.out l[J] (List.getElem_mem hJ)
      obtain ⟨y, hy⟩ : ∃ y, y = l[J] := ⟨_, rfl⟩
      rw [← hy] at c0 c1 hil
      have hts2 : turned at_ l R (k + 1) = turned at_ l R k ++ pc at_ y := by
        rw [hts, hy]
        simp only [hJe]
      clear hy hts hJe
      obtain ⟨y0, y1⟩ := y
      have HT := Lib.hid hts2
      have HIY := Lib.hid hil
      have hbw := HV.out.below
      have k0 : wr.cell? ⟨b, off + J * 2, none⟩ = some (.int .i64 y0) := (hbw.cell (p := ⟨b, off + J * 2, none⟩) hb).trans c0
      have k1 : wr.cell? ⟨b, off + J * 2 + 1, none⟩ = some (.int .i64 y1) := (hbw.cell (p := ⟨b, off + J * 2 + 1, none⟩) hb).trans c1
      clear hbw hb c0 c1 hil hts2
      have f1 : (0 : Int) ≤ (J : Int) := by omega
      have f2 : (J : Int) < (l.length : Int) := by omega
      have e1 : IntKind.i64.wrap (q1 + (l.length : Int)) = q1 + (l.length : Int) := IntWalk.i64_in _ (by omega)
      have HZ0 : Hid (0 < y1 → y1 ≠ 0) := fun h => by omega
      obtain ⟨M, hM⟩ : ∃ M, M = turned at_ l R k := ⟨_, rfl⟩
      rw [← hM] at HV HT
      have HML : Hid (M.length ≤ 4000000) := by
        show _ ≤ _
        rw [hM]
        have := turned_len at_ l R k hl0
        omega
      clear hM
      obtain ⟨P12, hP12⟩ : ∃ y, y = wr.heap.size := ⟨_, rfl⟩
      have HVA : Hid (Hv w No (rsA u10 M :: blkA P12 26 #[.int .i64 y0, .int .i64 y1] :: L0) (wr.alloc (.cells #[.int .i64 y0, .int .i64 y1] 26))) := by
        rw [hP12]
        exact (HV.out.alloc 26 #[.int .i64 y0, .int .i64 y1]).perm (List.Perm.swap _ _ _)
      by_cases hpos : 0 < y1
      · have dp : decide (0 < y1) = true := decide_eq_true hpos
        have k0' : (wr.alloc (.cells #[.int .i64 y0, .int .i64 y1] 26)).cell? ⟨wr.heap.size, 1, none⟩ = some (.int .i64 y1) := by rw [← hP12]; simpa using (HVA.out.blk (i := 1) rfl).cell 1
        go_wp2_with fail
        clear k0'

        obtain ⟨V, hV⟩ : ∃ y, y = wr.alloc (.cells #[.int .i64 y0, .int .i64 y1] 26) := ⟨_, rfl⟩
        rw [← hV] at HVA

        rw [← hV, ← hP12]
        clear hV hP12
        obtain ⟨q2, hq2⟩ : ∃ q, at_.tmod y1 = q := ⟨_, rfl⟩
        obtain ⟨z, hz⟩ : ∃ z, IntKind.i64.wrap (q2 + y1) = z := ⟨_, rfl⟩
        obtain ⟨kz, hkz⟩ : ∃ q, z.tmod y1 = q := ⟨_, rfl⟩
        have HKZ : Hid (kk at_ (y0, y1) = kz) := by show _ = _; unfold kk; rw [if_pos (show 0 < (y0, y1).2 from hpos)]; simp only []; rw [hq2, hz, hkz]
        have hne : (y1 == 0) = false := by rw [beq_eq_false_iff_ne]; omega
        have hne2 : ¬ y1 = 0 := by omega
        have n0 : ∀ q : ExtB V.heap.size V, q.w.cell? ⟨P12, 0, none⟩ = some (.int .i64 y0) := fun q => by simpa using ((HVA.out.still q.below).blk (i := 1) rfl).cell 0
        have n1 : ∀ q : ExtB V.heap.size V, q.w.cell? ⟨P12, 1, none⟩ = some (.int .i64 y1) := fun q => by simpa using ((HVA.out.still q.below).blk (i := 1) rfl).cell 1
        refine wp_region_quiet_below (by kernel_rfl) (by kernel_rfl) ?_
        repeat (go_big_quiet_step (fail))
        refine wpQuiet_nil ?_
        intro W2 hw2
        obtain ⟨q, hq⟩ := hw2
        have hb2 := q.below
        rw [← hq] at hb2
        clear hq q
        have HV2 := Lib.hid (HVA.out.still hb2)
        clear hb2 n0 n1 HVA hq2 hz hkz hne hne2

        have m0 : W2.cell? ⟨P12, 0, none⟩ = some (.int .i64 y0) := by simpa using (HV2.out.blk (i := 1) rfl).cell 0
        have m1 : W2.cell? ⟨P12, 1, none⟩ = some (.int .i64 y1) := by simpa using (HV2.out.blk (i := 1) rfl).cell 1

        by_cases hf : farB (y0, y1) = true

        · have HPC : Hid (pc at_ (y0, y1) = [(y0, y1)]) := by show _ = _; unfold pc; rw [if_pos hf]
          obtain ⟨g, cap, W3, hE, hH⟩ := app_span HV2.out 26 HML.out (y0, y1)
          try rw [World.size_alloc] at hE
          have HE := Lib.hid hE
          have HH : Hid (Hv w No (rsA (.slice (some ⟨g, 0, none⟩) (M.length + 1) cap) (M ++ [(y0, y1)]) :: L0) W3) := (hH.perm (List.Perm.swap _ _ _)).tail
          clear hE hH

          rcases far_cases hf with g1 | ⟨g1, g2⟩ | ⟨g1, g2, g3⟩ | ⟨g1, g2, g3, g4⟩
          all_goals
            clear hf
            go_wp2_with (first | (at_builtin; refine wpList_append_run rfl (.tmp 80) (.tmp 82) _ rfl HE.out ?_) | fail)
            go_roundw
            case rel => exact ⟨k + 1, by omega, by go_num, by rw [HT.out, HPC.out]; exact HH.out⟩
            case measure => simp [intOf]; omega

        · have hff : farB (y0, y1) = false := by simpa using hf
          obtain ⟨g1, g2, g3, g4⟩ := near_cases hff
          have hb := far_iff.1 hff
          obtain ⟨⟨hb1, hb2⟩, hb3, hb4⟩ := hb
          simp only [] at hb1 hb2 hb3 hb4
          have hkr := kk_range (at_ := at_) (x := (y0, y1)) hb4 hb2
          rw [HKZ.out] at hkr
          obtain ⟨hk0, hk1⟩ := hkr
          simp only [] at hk1
          have HPC : Hid (pc at_ (y0, y1) = [(y0 + kz, y1 - kz), (y0, kz)]) := by show _ = _; unfold pc; rw [if_neg hf, HKZ.out]
          clear hf hff
          obtain ⟨g, cap, W3, hE, hH⟩ := app_two HV2.out 26 HML.out (y0 + kz, y1 - kz) (y0, kz)
          try rw [World.size_alloc] at hE
          have HE := Lib.hid hE
          have HH : Hid (Hv w No (rsA (.slice (some ⟨g, 0, none⟩) (M.length + 2) cap) (M ++ [(y0 + kz, y1 - kz), (y0, kz)]) :: L0) W3) := (hH.perm (List.Perm.swap _ _ _)).tail
          clear hE hH

          go_wp2_with (first | (at_builtin; refine wpList_append_run rfl (.tmp 84) (.tmp 98) _ rfl HE.out ?_) | fail)
          go_roundw
          case rel => exact ⟨k + 1, by omega, by go_num, by rw [HT.out, HPC.out]; exact HH.out⟩
          case measure => simp [intOf]; omega
      · have dp : decide (0 < y1) = false := decide_eq_false hpos
        have HKZ : Hid (kk at_ (y0, y1) = 0) := by show _ = _; unfold kk; rw [if_neg (show ¬ 0 < (y0, y1).2 from hpos)]
        subst hP12
        have HV2 := HVA
        by_cases hf : farB (y0, y1) = true

        · have HPC : Hid (pc at_ (y0, y1) = [(y0, y1)]) := by show _ = _; unfold pc; rw [if_pos hf]
          obtain ⟨g, cap, W3, hE, hH⟩ := app_span HV2.out 26 HML.out (y0, y1)
          try rw [World.size_alloc] at hE
          have HE := Lib.hid hE
          have HH : Hid (Hv w No (rsA (.slice (some ⟨g, 0, none⟩) (M.length + 1) cap) (M ++ [(y0, y1)]) :: L0) W3) := (hH.perm (List.Perm.swap _ _ _)).tail
          clear hE hH

          rcases far_cases hf with g1 | ⟨g1, g2⟩ | ⟨g1, g2, g3⟩ | ⟨g1, g2, g3, g4⟩
          all_goals
            clear hf
            go_wp2_with (first | (at_builtin; refine wpList_append_run rfl (.tmp 80) (.tmp 82) _ rfl HE.out ?_) | fail)
            go_roundw
            case rel => exact ⟨k + 1, by omega, by go_num, by rw [HT.out, HPC.out]; exact HH.out⟩
            case measure => simp [intOf]; omega

        · have hff : farB (y0, y1) = false := by simpa using hf
          obtain ⟨g1, g2, g3, g4⟩ := near_cases hff
          have hb := far_iff.1 hff
          obtain ⟨⟨hb1, hb2⟩, hb3, hb4⟩ := hb
          simp only [] at hb1 hb2 hb3 hb4
          have hkr := kk_range (at_ := at_) (x := (y0, y1)) hb4 hb2
          rw [HKZ.out] at hkr
          obtain ⟨hk0, hk1⟩ := hkr
          simp only [] at hk1
          have HPC : Hid (pc at_ (y0, y1) = [(y0, y1), (y0, 0)]) := by show _ = _; unfold pc; rw [if_neg hf, HKZ.out]; simp
          clear hf hff
          obtain ⟨g, cap, W3, hE, hH⟩ := app_two HV2.out 26 HML.out (y0, y1) (y0, 0)
          try rw [World.size_alloc] at hE
          have HE := Lib.hid hE
          have HH : Hid (Hv w No (rsA (.slice (some ⟨g, 0, none⟩) (M.length + 2) cap) (M ++ [(y0, y1), (y0, 0)]) :: L0) W3) := (hH.perm (List.Perm.swap _ _ _)).tail
          clear hE hH

          go_wp2_with (first | (at_builtin; refine wpList_append_run rfl (.tmp 84) (.tmp 98) _ rfl HE.out ?_) | fail)
          go_roundw
          case rel => exact ⟨k + 1, by omega, by go_num, by rw [HT.out, HPC.out]; exact HH.out⟩
          case measure => simp [intOf]; omega
    · obtain rfl : k = l.length := by omega
      obtain ⟨M, hM⟩ : ∃ M, M = turned at_ l R l.length := ⟨_, rfl⟩
      rw [← hM] at HV
      have HMM := Lib.hid hM
      have hML : M.length ≤ 80 := by rw [hM]; have := turned_len at_ l R l.length hl0; omega
      have HI2 : Hid (∀ y ∈ M, I64 y) := by rw [hM]; exact turned_i64 r2 hi.out
      clear hM
      obtain ⟨A5, c5, e5, _⟩ := SpArg.of_own (HV.out.row (i := 0) rfl)
      subst e5
      have HA2 : Hid (SpArg wr A5 M) := row_arg HV.out (i := 0) rfl
      rcases HCS.out with ⟨ha, rfl, s1, rfl, rfl⟩ | ⟨hn, rfl, rfl, rfl⟩
      · have HMAY : Hid (∀ x ∈ l, May x) := fun x hx => (mayB_iff x).1 (ha x hx)
        have hma : ∀ y ∈ M, mayB y = true := fun y hy => (mayB_iff y).2 (turned_may (at_ := at_) r2 HMAY.out y (by rw [← HMM.out]; exact hy))
        have HXY : Hid (newF l = newF M) := by show _ = _; rw [HMM.out]; exact turned_new r2 HMAY.out
        have HLX : Hid ((newF l).length ≤ 40) := Nat.le_trans (newF_length HMAY.out) hl
        clear ha HCS
        go_wp2_with fail
        refine (new_may A5 c5 M wr HA2 (by omega) HI2 hma).mono ?_
        rintro e w3 ⟨s2, rfl, h3⟩
        have HV3 : Hid (Hv w No [setA s1 (newF l), setA s2 (newF M)] w3) := (HV.out.add h3).pick [2, 0]
        clear h3 HV HA2 hma
        obtain ⟨T3, hT3, hJ3⟩ := HV3.out.all
        have HT3 := Lib.hid hT3
        clear hT3 hJ3
        go_wp2_with fail
        refine (same_any s1 s2 (newF l) (newF M) _ HT3 (by have := HLX.out; omega)).mono ?_
        rintro e w4 ⟨rfl, hb4⟩
        have HV4 := Lib.hid (HV3.out.still hb4)
        rw [decide_eq_true HXY.out]
        clear hb4 HV3 HT3
        go_wp2_with fail
        refine (awake_any _).mono ?_
        rintro e w8 ⟨rfl, hb8⟩
        have HV8 := Lib.hid (HV4.out.still hb8)
        clear hb8 HV4
        go_wp2
        go_ret
        exact ⟨rfl, HV8.out.below⟩
      · have hmn : ∃ y ∈ M, mayB y = false := by rw [HMM.out]; exact turned_not r2 hn
        clear hn HCS
        go_wp2_with fail
        refine (new_not A5 c5 M wr HA2 (by omega) HI2 hmn).mono ?_
        rintro e w3 ⟨rfl, hb3⟩
        have HV3 := Lib.hid (HV.out.still hb3)
        clear hb3 HV hmn HA2
        go_wp2_with fail
        refine (awake_any _).mono ?_
        rintro e w8 ⟨rfl, hb8⟩
        have HV8 := Lib.hid (HV3.out.still hb8)
        clear hb8 HV3
        go_wp2
        go_ret
        exact ⟨rfl, HV8.out.below⟩
end Go.Proofs.Ytelkanfmhfopnaa

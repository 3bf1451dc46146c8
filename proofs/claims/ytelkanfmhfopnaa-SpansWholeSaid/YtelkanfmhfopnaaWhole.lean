/- The walk of SpansWhole. -/
import Derived.Test.YtelkanfmhfopnaaWholePlain
import Derived.Test.YtelkanfmhfopnaaMeet
import Derived.Test.YtelkanfmhfopnaaAllOf
namespace Go.Proofs.Ytelkanfmhfopnaa
open Go.RowKit Go.LawEnd Go.Shelf

attribute [local go_sem] Oper.semAt_some

theorem results_cell_one {fn : Func} {p : Tmp} {ty : TypeId} (h : fn.results = #[.cell p ty]) (tmps : Array Value) (P : Program) (w : World) :
    (results fn tmps).run P w = ((asAddr (tmps.getD p undef)).run P w).andThen fun a w₁ => (loadVar ty a).run P w₁ := by
  simp only [results, h]
  simp [Sem.run_bind]
theorem infoInt : (Try.prog.info? 3).map (fun i => (i.zero, i.size, i.bytes)) = some (some (.int .i64 0), 1, 8) := by kernel_rfl
def ints (l : List Int) : List Value := l.map (Value.int .i64)
abbrev inA (v : Value) (l : List Int) : Atom := rowA v 3 1 l.length (ints l)
theorem app_int {w0 W : World} {S : Nat → Prop} {L : List Atom} {v : Value} {l : List Int} (h : Hv w0 S (inA v l :: L) W) (te : TypeId) (hl : l.length ≤ 4000000) (p : Int) :
    ∃ g cap w', (Builtin.append_ #[55, 55] 55 #[v, .slice (some ⟨W.heap.size, 0, none⟩) 1 1]).run Try.prog (W.alloc (.cells #[.int .i64 p] te)) = .ok (.slice (some ⟨g, 0, none⟩) (l.length + 1) cap) w' ∧
      Hv w0 S (inA (.slice (some ⟨g, 0, none⟩) (l.length + 1) cap) (l ++ [p]) :: L) w' := by
  obtain ⟨i0, hi0, hz0, hz1, hz2⟩ := info_parts infoInt
  obtain ⟨g, cap, w', h1, h2, _, _⟩ := h.append (P := Try.prog) 55 55 te (i := i0) (bytes := 8) Try.underlying55 hi0 hz0 hz1 hz2 rfl (by omega) 1 (by omega) #[.int .i64 p] rfl (by
    intro u hu
    simp only [List.mem_cons, List.not_mem_nil, or_false] at hu
    rcases hu with rfl
    rfl) (by unfold maxLen; omega) (by omega)
  refine ⟨g, cap, w', h1, ?_⟩
  have e1 : (l ++ [p]).length = l.length + 1 := by simp
  unfold inA
  rw [e1]
  have e2 : ints (l ++ [p]) = ints l ++ [.int .i64 p] := by simp [ints]
  rw [e2]
  exact h2
theorem int_row {w0 w : World} {S : Nat → Prop} {L : List Atom} {A : Option Addr} {c n i : Nat} {l : List Int} (h : Hv w0 S L w) (hi : L[i]? = some (rowA (.slice A n c) 3 1 l.length (ints l))) (k : Nat) (hk : k < l.length) :
    ∃ b, A = some ⟨b, 0, none⟩ ∧ b < w.heap.size ∧ w.cell? ⟨b, k, none⟩ = some (.int .i64 l[k]) := by
  have hr := h.row hi
  rcases hr.2 with ⟨_, h0⟩ | ⟨g, cap, cur, e, _, hh, _⟩
  · omega
  · cases e
    refine ⟨g, rfl, lt_of_obj hh, ?_⟩
    rw [hr.cellAt k (by omega)]
    simp [ints, hk]

theorem celly_set (B s : Nat) (l : List Sp) : (setA s l).Celly B := celly_pack fun v Y hY => by
  simp only [List.mem_cons, List.not_mem_nil, or_false] at hY
  rcases hY with rfl | rfl | rfl
  · exact celly_blk _ _ _ _
  · exact celly_row _ _ _ _ _ _
  · exact celly_pure _ _
theorem wpAnyH_mono {P : Program} {md : Region.Mode} {ops : Array Oper} {Q : Exit → Act → World → Prop} {S S' : World → Prop} (hs : ∀ W, S' W → S W) :
    ∀ (fuel : Nat) (listed : Array Bool) (a : Act) (w : World), wpAnyH P md ops Q S' fuel listed a w → wpAnyH P md ops Q S fuel listed a w
  | 0, _, _, _, h => h
  | fuel + 1, _, _, _, h => ⟨h.1, fun i hi => wpOp_mono (fun _ _ h' => ⟨hs _ h'.1, wpAnyH_mono hs fuel _ _ _ h'.2⟩) (h.2 i hi)⟩

set_option maxRecDepth 100000 in
set_option maxHeartbeats 6400000 in
theorem whole_main (A : Option Addr) (cp : Nat) (l : List Sp) (w : World) (h : Hid (SpArg w A l)) (hl : l.length ≤ 40) (hi : Hid (∀ y ∈ l, I64 y)) :
    Calls Try.prog 7 #[.slice A l.length cp] w (Yes w) := by
  have hnf := not_nil_nums
  have d0 : decide ((40 : Int) < (l.length : Int)) = false := decide_eq_false (by omega)
  refine (callsIn_wide (n := 9)).1 ?_
  refine callsIn_of_wp_marks Try.func7 rfl trivial ?_ rfl
  simp only [Try.ntmps7, List.size_toArray, List.length_cons, List.length_nil, Nat.reduceAdd, Nat.reduceSub, Array.replicate_succ, Array.replicate_zero, List.push_toArray, List.append_toArray, List.nil_append, List.cons_append]
  refine wpIn_wide.2 ?_
  obtain ⟨P2, hP2⟩ : ∃ y, y = w.heap.size := ⟨_, rfl⟩
  obtain ⟨w0, hw0⟩ : ∃ y, y = w.alloc (.cells #[.bool false] 4) := ⟨_, rfl⟩
  have HV0 : Hid (Hv w No [blkA P2 4 #[.bool false]] w0) := by
    rw [hP2, hw0]; exact (Hv.begin w).alloc 4 #[.bool false]
  go_wp2_with fail
  rw [← hw0, ← hP2]
  clear hw0 hP2 d0
  go_loopw [3] (fun i wr => ∃ k : Nat, k ≤ l.length ∧ i = .int .i64 k ∧ Hid (Hv w No [blkA P2 4 #[.bool false]] wr) ∧ Hid (∀ y ∈ l.take k, y.2 ≤ 60)) (fun i _ => l.length - (intOf i).toNat)
  case atStart => exact ⟨0, by omega, rfl, HV0, fun y hy => by simp at hy⟩
  case round =>
    clear HV0
    obtain ⟨k, hk, rfl, HV, HM⟩ := hrel
    by_cases hkl : k < l.length
    · obtain ⟨b, off, rfl, hb, c0, c1⟩ := h.out k hkl
      have hts : l.take (k + 1) = l.take k ++ [l[k]] := List.take_succ_eq_append_getElem hkl
      obtain ⟨y, hy⟩ : ∃ y, y = l[k] := ⟨_, rfl⟩
      rw [← hy] at c0 c1 hts
      clear hy
      obtain ⟨y0, y1⟩ := y
      have HT := Lib.hid hts
      have k1 : wr.cell? ⟨b, off + k * 2 + 1, none⟩ = some (.int .i64 y1) := (HV.out.below.cell (p := ⟨b, off + k * 2 + 1, none⟩) hb).trans c1
      clear c0 c1 hb hts
      have f1 : (0 : Int) ≤ (k : Int) := by omega
      have f2 : (k : Int) < (l.length : Int) := by omega
      by_cases h60 : y1 ≤ 60
      · have d1 : decide ((60 : Int) < y1) = false := decide_eq_false (by omega)
        go_wp2_with fail
        go_roundw
        case rel => exact ⟨k + 1, by omega, by go_num, HV, fun y hy => by
          rw [HT.out] at hy
          rcases List.mem_append.1 hy with h | h
          · exact HM.out y h
          · rw [List.mem_singleton.1 h]; exact h60⟩
        case measure => simp [intOf]; omega
      · have d1 : decide ((60 : Int) < y1) = true := decide_eq_true (by omega)
        go_wp2_with fail
        refine (awake_any _).mono ?_
        rintro e w6 ⟨rfl, hb6⟩
        have HV0 := Lib.hid (HV.out.still hb6)
        clear hb6 HV
        have c9 : w6.cell? ⟨P2, 0, none⟩ = some (.bool false) := by simpa using (HV0.out.blk (i := 0) rfl).cell 0
        have c10 := (HV0.out.blk (i := 0) rfl).frozen 0
        have HV8 := HV0.out.set 0 (.bool true)
        have c7 := (HV8.blk (i := 0) rfl).cell 0
        simp only [Array.setIfInBounds, List.size_toArray, List.length_cons, List.length_nil, Nat.zero_lt_succ, ↓reduceDIte] at c7
        have HB8 := Lib.hid HV8.below
        clear HV8
        go_wp2
        refine ⟨.bool true, ?_, rfl, HB8.out⟩
        rw [results_cell_one rfl]
        go_simp
    · have hkl2 : l.take k = l := List.take_of_length_le (by omega)
      rw [hkl2] at HM
      clear hkl2
      go_wp2_with fail
      have HA := Lib.hid (h.out.below HV.out.below)
      by_cases hm : ∀ y ∈ l, mayB y = true
      · refine (new_may A cp l _ HA (by omega) hi hm).mono ?_
        rintro e w1 ⟨s, rfl, h1⟩
        have HMAY : Hid (∀ x ∈ l, May x) := fun x hx => (mayB_iff x).1 (hm x hx)
        obtain ⟨S, hS⟩ : ∃ S, S = newF l := ⟨_, rfl⟩
        have HO : Hid (OkS S) := by show OkS S; rw [hS]; exact (newF_ok HMAY.out).1
        have HSL : Hid (S.length ≤ 40) := by show _ ≤ _; rw [hS]; exact Nat.le_trans (newF_length HMAY.out) hl
        have HTL : Hid (total S ≤ 2400) := by
          show _ ≤ _
          have h1 := total_new HMAY.out
          have h2 := total_le HM.out
          rw [hS]; omega
        have HNH : Hid (∀ y ∈ l, 0 < y.2 → memB S y.1 = true ∧ memB S (y.1 + y.2 - 1) = true) := fun y hy h0 => by rw [hS]; exact new_has HMAY.out hy h0
        rw [← hS] at h1
        have HV1 : Hid (Hv w No [setA s S, blkA P2 4 #[.bool false]] w1) := HV.out.add h1
        clear h1 hS hm HA HV
        obtain ⟨P4, hP4⟩ : ∃ y, y = w1.heap.size := ⟨_, rfl⟩
        obtain ⟨V1, hV1⟩ : ∃ y, y = w1.alloc (.cells #[.pointer (some ⟨s, 0, none⟩)] 27) := ⟨_, rfl⟩
        have HV2 : Hid (Hv w No [setA s S, blkA P2 4 #[.bool false], blkA P4 27 #[.pointer (some ⟨s, 0, none⟩)]] V1) := by
          rw [hP4, hV1]; exact (HV1.out.alloc 27 #[.pointer (some ⟨s, 0, none⟩)]).pick [1, 2, 0]
        clear HV1
        go_wp2_with fail
        rw [← hV1, ← hP4]
        clear hV1 hP4
        obtain ⟨T2, hT2, hJ2⟩ := Hv.use [setA s S] _ HV2.out
        refine (allOf_any s S _ hT2 HO (by have := HSL.out; omega)).mono ?_
        rintro e w2 ⟨va, rfl, h2, _⟩
        have HV3 : Hid (Hv w No [setA s S, blkA P2 4 #[.bool false], blkA P4 27 #[.pointer (some ⟨s, 0, none⟩)], rsA va S] w2) := (HV2.out.add h2).pick [1, 2, 3, 0]
        clear hT2 hJ2 h2 HV2
        obtain ⟨AA, ca, e1, _⟩ := SpArg.of_own (HV3.out.row (i := 3) rfl)
        subst e1
        have k4 : w2.cell? ⟨P4, 0, none⟩ = some (.pointer (some ⟨s, 0, none⟩)) := by simpa using (HV3.out.blk (i := 2) rfl).cell 0
        go_wp2_with fail
        obtain ⟨T3, hT3, hJ3⟩ := Hv.use [setA s S] _ HV3.out
        refine (numbers_any s S _ hT3 (by have := HSL.out; omega)).mono ?_
        rintro e w3 ⟨X, B, v, rfl, h3⟩
        have HV4 : Hid (Hv w No [setA s S, blkA P2 4 #[.bool false], blkA P4 27 #[.pointer (some ⟨s, 0, none⟩)], rsA (.slice AA S.length ca) S, numA X B v S] w3) := (HV3.out.add h3).pick [1, 2, 3, 4, 0]
        clear hT3 hJ3 h3 HV3 k4
        go_wp2_with fail
        obtain ⟨P9, hP9⟩ : ∃ y, y = w3.heap.size := ⟨_, rfl⟩
        obtain ⟨V3, hV3⟩ : ∃ y, y = w3.alloc (.cells #[.slice none 0 0] 55) := ⟨_, rfl⟩
        have HV5 : Hid (Hv w No [blkA P9 55 #[.slice none 0 0], inA (.slice none 0 0) [], setA s S, blkA P2 4 #[.bool false], blkA P4 27 #[.pointer (some ⟨s, 0, none⟩)], rsA (.slice AA S.length ca) S, numA X B v S] V3) := by
          rw [hP9, hV3]; exact ((HV4.out.alloc 55 #[.slice none 0 0]).nilRow 3 1).pick [1, 0, 2, 3, 4, 5, 6]
        rw [← hV3, ← hP9]
        clear hV3 hP9 HV4
        go_loopw [10, 11, 12] (fun la i _ wr => ∃ k : Nat, k ≤ S.length ∧ i = .int .i64 k ∧ la = .int .i64 (lastEnd (S.take k)) ∧ ∃ vw, Hid (Hv w No [blkA P9 55 #[vw], inA vw (nums (S.take k)), setA s S, blkA P2 4 #[.bool false], blkA P4 27 #[.pointer (some ⟨s, 0, none⟩)], rsA (.slice AA S.length ca) S, numA X B v S] wr)) (fun _ i _ _ => S.length - (intOf i).toNat)
        case atStart => exact ⟨0, by omega, rfl, rfl, _, HV5⟩
        case round =>
          clear HV5
          obtain ⟨k2, hk2, rfl, rfl, vw, HV6⟩ := hrel
          by_cases hks : k2 < S.length
          · have hq := row_arg HV6.out (i := 5) rfl k2 hks
            obtain ⟨bq, oq, rfl, hbq, c0, c1⟩ := hq
            have hv := HO.out.val S[k2] (List.getElem_mem hks)
            have hle := one_le_total HO.out (List.getElem_mem hks)
            have hlast := lastEnd_lt HO.out hks
            have htk := nums_take hks
            have hts : S.take (k2 + 1) = S.take k2 ++ [S[k2]] := List.take_succ_eq_append_getElem hks
            have hls : lastEnd (S.take (k2 + 1)) = en S[k2] := by rw [hts, lastEnd_snoc]
            have hlr := lastEnd_range (oks_take HO.out k2)
            have hpl : (nums (S.take k2)).length ≤ 1048576 := by
              have h1 := nums_length (oks_take HO.out k2)
              have h2 := oks_total (oks_take HO.out k2)
              omega
            have HQ0 : ∀ (L : List Atom) (W : World), Hv w No L W → L[5]? = some (rsA (.slice (some ⟨bq, oq, none⟩) S.length ca) S) → W.cell? ⟨bq, oq + k2 * 2, none⟩ = some (.int .i64 S[k2].1) ∧ W.cell? ⟨bq, oq + k2 * 2 + 1, none⟩ = some (.int .i64 S[k2].2) := fun L W hv hr => by
              obtain ⟨b', o', e, _, c0, c1⟩ := row_arg hv hr k2 hks
              injection e with e
              injection e with e1 e2 _
              subst e1 e2
              exact ⟨c0, c1⟩
            obtain ⟨y, hy⟩ : ∃ y, y = S[k2] := ⟨_, rfl⟩
            rw [← hy] at HQ0
            obtain ⟨la, hla⟩ : ∃ la, la = lastEnd (S.take k2) := ⟨_, rfl⟩
            obtain ⟨E, hE⟩ : ∃ E, E = nums (S.take k2) := ⟨_, rfl⟩
            rw [← hy] at c0 c1 hv hle hlast htk hls
            rw [← hla] at hlast hlr ⊢
            rw [← hE] at htk hpl HV6
            obtain ⟨y0, y1⟩ := y
            unfold en at hv hls
            simp only [] at hv hle hlast htk hls
            obtain ⟨hv0, hv1, hv2⟩ := hv
            have hT := HTL.out
            have HTK := Lib.hid htk
            have HLS := Lib.hid hls
            have HPL := Lib.hid hpl
            have d1 : decide (y0 ≤ la) = false := decide_eq_false (by omega)
            have d2 : decide (y1 < 1) = false := decide_eq_false (by omega)
            have d3 : decide (2400 < y1) = false := decide_eq_false (by omega)
            have e7 : IntKind.i64.wrap (y0 + y1) = y0 + y1 := IntWalk.i64_in _ (by omega)
            have f1 : (0 : Int) ≤ (k2 : Int) := by omega
            have f2 : (k2 : Int) < (S.length : Int) := by omega
            have HQ : Hid (∀ W : World, Below wr.heap.size wr W → W.cell? ⟨bq, oq + k2 * 2, none⟩ = some (.int .i64 y0) ∧ W.cell? ⟨bq, oq + k2 * 2 + 1, none⟩ = some (.int .i64 y1)) := fun W hW => ⟨(hW.cell (p := ⟨bq, oq + k2 * 2, none⟩) hbq).trans c0, (hW.cell (p := ⟨bq, oq + k2 * 2 + 1, none⟩) hbq).trans c1⟩
            have HQR := Lib.hid HQ0
            clear hy hla hE htk hls hts hpl hT hle hlast HQ0
            go_wp2_with fail
            have q0 : ∀ q : ExtB wr.heap.size wr, q.w.cell? ⟨bq, oq + k2 * 2, none⟩ = some (.int .i64 y0) := fun q => (HQ.out q.w q.below).1
            have q1 : ∀ q : ExtB wr.heap.size wr, q.w.cell? ⟨bq, oq + k2 * 2 + 1, none⟩ = some (.int .i64 y1) := fun q => (HQ.out q.w q.below).2
            refine wp_region_quiet_below (by kernel_rfl) (by kernel_rfl) ?_
            repeat (go_big_quiet_step (fail))
            refine wpQuiet_nil ?_
            intro W2 hw2
            obtain ⟨q, hq⟩ := hw2
            have hb2 := q.below
            rw [← hq] at hb2
            clear hq q
            have HV7 := Lib.hid (HV6.out.still hb2)
            clear hb2 q0 q1 HV6 c0 c1 HQ hbq
            go_wp2_with fail
            go_loopw [12] (fun ki wr2 => ∃ i : Nat, (i : Int) ≤ y1 ∧ ki = .int .i64 i ∧ ∃ vw, Hid (Hv w No [blkA P9 55 #[vw], inA vw (E ++ numsOf (y0, y1) i), setA s S, blkA P2 4 #[.bool false], blkA P4 27 #[.pointer (some ⟨s, 0, none⟩)], rsA (.slice (some ⟨bq, oq, none⟩) S.length ca) S, numA X B v S] wr2)) (fun ki _ => y1.toNat - (intOf ki).toNat)
            case atStart => exact ⟨0, by omega, rfl, vw, by rw [show numsOf (y0, y1) 0 = [] from rfl, List.append_nil]; exact HV7⟩
            case round =>
              clear HV7
              obtain ⟨i, hi2, rfl, vw2, HV8⟩ := hrel
              obtain ⟨c0, c1⟩ := HQR.out _ _ HV8.out rfl
              by_cases hiy : (i : Int) < y1
              · have d4 : decide ((i : Int) < y1) = true := decide_eq_true hiy
                have HSUC : Hid (E ++ numsOf (y0, y1) (i + 1) = (E ++ numsOf (y0, y1) i) ++ [y0 + (i : Int)]) := by show _ = _; rw [numsOf_succ, List.append_assoc]
                have HEL : Hid ((E ++ numsOf (y0, y1) i).length ≤ 4000000) := by
                  show _ ≤ _
                  have : (numsOf (y0, y1) i).length = i := by simp [numsOf]
                  rw [List.length_append, this]
                  have := HPL.out
                  omega
                obtain ⟨E2, hE2⟩ : ∃ E2, E2 = E ++ numsOf (y0, y1) i := ⟨_, rfl⟩
                rw [← hE2] at HSUC HEL HV8
                clear hE2
                have e8 : IntKind.i64.wrap (y0 + (i : Int)) = y0 + i := IntWalk.i64_in _ (by omega)
                obtain ⟨A9, c9, e9⟩ : ∃ A9 c9, vw2 = .slice A9 E2.length c9 := by
                  have hr := HV8.out.row (i := 1) rfl
                  rcases hr.2 with ⟨e, h0⟩ | ⟨g, cap, cur, e, _⟩
                  · exact ⟨_, _, by rw [e, h0]⟩
                  · exact ⟨_, _, e⟩
                subst e9
                have HX : Hid (Hv w No [inA (.slice A9 E2.length c9) E2, blkA P9 55 #[.slice A9 E2.length c9], setA s S, blkA P2 4 #[.bool false], blkA P4 27 #[.pointer (some ⟨s, 0, none⟩)], rsA (.slice (some ⟨bq, oq, none⟩) S.length ca) S, numA X B v S] wr.drew) := HV8.out.drew.pick [1, 0, 2, 3, 4, 5, 6]
                have HKP : Hid (∀ (u : Value) (F : List Int) (R : List Atom) (W : World), Hv w No (inA u F :: blkA P9 55 #[.slice A9 E2.length c9] :: R) W → (inA u F :: blkA P9 55 #[.slice A9 E2.length c9] :: R)[5]? = some (rsA (.slice (some ⟨bq, oq, none⟩) S.length ca) S) → W.cell? ⟨P9, 0, none⟩ = some (.slice A9 E2.length c9) ∧ W.frozen? ⟨P9, 0, none⟩ = false ∧ W.cell? ⟨bq, oq + k2 * 2, none⟩ = some (.int .i64 y0)) := fun u F R W hv hr => ⟨by simpa using (hv.blk (i := 1) rfl).cell 0, (hv.blk (i := 1) rfl).frozen 0, (HQR.out _ _ hv hr).1⟩
                obtain ⟨c2, c3, c0⟩ := HKP.out _ _ _ _ HX.out rfl
                clear HV8
                go_wp2_with fail
                refine wp_region_noPanic ?_
                refine wp_region_held_drew (S := (fun W => W.frozen? ⟨P9, 0, none⟩ = false ∧ W.cell? ⟨bq, oq + k2 * 2, none⟩ = some (.int .i64 y0))) (by kernel_rfl) (HKP.out _ _ _ _ HX.out rfl).2 (fun hHeld => ?_)
                refine wpAnyH_take (i := 1) (v := ?v1) rfl (by kernel_rfl) (by kernel_rfl) (by kernel_rfl) (fun _ _ _ h => h) (Or.inl ⟨by rfl, ?hy1⟩) (by assumption) ?rest1
                case hy1 =>
                  intro w hSw
                  (try dsimp only at hSw)
                  go_simp
                  try with_reducible rfl
                simp only [Act.put, List.getElem_toArray, List.getElem_cons_zero, List.getElem_cons_succ, List.setIfInBounds_toArray, List.set_cons_zero, List.set_cons_succ]
                refine wpAnyH_take (i := 2) (v := ?v2) rfl (by kernel_rfl) (by kernel_rfl) (by kernel_rfl) (fun _ _ _ h => h) (Or.inl ⟨by rfl, ?hy2⟩) (by assumption) ?rest2
                case hy2 =>
                  intro w hSw
                  (try dsimp only at hSw)
                  go_simp
                  try with_reducible rfl
                simp only [Act.put, List.getElem_toArray, List.getElem_cons_zero, List.getElem_cons_succ, List.setIfInBounds_toArray, List.set_cons_zero, List.set_cons_succ]
                refine wpAnyH_take (i := 3) (v := ?v3) rfl (by kernel_rfl) (by kernel_rfl) (by kernel_rfl) (fun _ _ _ h => h) (Or.inl ⟨by rfl, ?hy3⟩) (by assumption) ?rest3
                case hy3 =>
                  intro w hSw
                  (try dsimp only at hSw)
                  go_simp
                  try with_reducible rfl
                simp only [Act.put, List.getElem_toArray, List.getElem_cons_zero, List.getElem_cons_succ, List.setIfInBounds_toArray, List.set_cons_zero, List.set_cons_succ]
                refine wpAnyH_take (i := 4) (v := ?v4) rfl (by kernel_rfl) (by kernel_rfl) (by kernel_rfl) (fun _ _ _ h => h) (Or.inl ⟨by rfl, ?hy4⟩) (by assumption) ?rest4
                case hy4 =>
                  intro w hSw
                  (try dsimp only at hSw)
                  go_simp
                  try with_reducible rfl
                simp only [Act.put, List.getElem_toArray, List.getElem_cons_zero, List.getElem_cons_succ, List.setIfInBounds_toArray, List.set_cons_zero, List.set_cons_succ]
                refine wpAnyH_take (i := 5) (v := ?v5) rfl (by kernel_rfl) (by kernel_rfl) (by kernel_rfl) (fun _ _ _ h => h) (Or.inl ⟨by rfl, ?hy5⟩) (by assumption) ?rest5
                case hy5 =>
                  intro w hSw
                  (try dsimp only at hSw)
                  go_simp
                  try with_reducible rfl
                simp only [Act.put, List.getElem_toArray, List.getElem_cons_zero, List.getElem_cons_succ, List.setIfInBounds_toArray, List.set_cons_zero, List.set_cons_succ]
                refine wpAnyH_take (i := 6) (v := ?v6) rfl (by kernel_rfl) (by kernel_rfl) (by kernel_rfl) (fun _ _ _ h => h) (Or.inl ⟨by rfl, ?hy6⟩) (by assumption) ?rest6
                case hy6 =>
                  intro w hSw
                  (try dsimp only at hSw)
                  go_simp
                  try with_reducible rfl
                simp only [Act.put, List.getElem_toArray, List.getElem_cons_zero, List.getElem_cons_succ, List.setIfInBounds_toArray, List.set_cons_zero, List.set_cons_succ]
                refine wpAnyH_take (i := 7) (v := ?v7) rfl (by kernel_rfl) (by kernel_rfl) (by kernel_rfl) (fun _ _ _ h => h) (Or.inl ⟨by rfl, ?hy7⟩) (by assumption) ?rest7
                case hy7 =>
                  intro w hSw
                  (try dsimp only at hSw)
                  go_simp
                  try with_reducible rfl
                simp only [Act.put, List.getElem_toArray, List.getElem_cons_zero, List.getElem_cons_succ, List.setIfInBounds_toArray, List.set_cons_zero, List.set_cons_succ]
                refine wpAnyH_ready (rs := [0, 8]) (by kernel_rfl) (by simp) ?_
                refine AllReadyH.cons rfl (fun K hK => ?_) (AllReadyH.cons rfl (fun K hK => ?_) AllReadyH.nil)
                · go_simp
                  refine hK.out _ _ hHeld (fun hHeld2 => ?_)
                  clear hK K
                  refine wpAnyH_ready (rs := [8]) (by kernel_rfl) (by simp) ?_
                  refine AllReadyH.cons rfl (fun K hK => ?_) AllReadyH.nil
                  go_simp
                  refine hK.out _ _ (HKP.out _ _ _ _ (HX.out.alloc_ _) rfl).2 (fun hHeld3 => ?_)
                  clear hK K
                  refine wpAnyH_ready (rs := [9]) (by kernel_rfl) (by simp) ?_
                  refine AllReadyH.cons rfl (fun K hK => ?_) AllReadyH.nil
                  obtain ⟨g2, cap2, W7, hE, hH⟩ := app_int HX.out 3 HEL.out (y0 + (i : Int))
                  refine step_append_run rfl (.tmp 115) (.tmp 123) 55 rfl (v' := .slice (some ⟨g2, 0, none⟩) (E2.length + 1) cap2) (w' := W7) ?_ ?_
                  · exact hE
                  have HX7 := Lib.hid hH
                  clear hE hH
                  refine hK.out _ _ (HKP.out _ _ _ _ HX7.out rfl).2 (fun hHeld4 => ?_)
                  clear hK K
                  refine wpAnyH_ready (rs := [10]) (by kernel_rfl) (by simp) ?_
                  refine AllReadyH.cons rfl (fun K hK => ?_) AllReadyH.nil
                  obtain ⟨c5, c6, _⟩ := HKP.out _ _ _ _ HX7.out rfl
                  go_simp
                  have HX8 : Hid (Hv w No [blkA P9 55 #[.slice (some ⟨g2, 0, none⟩) (E2.length + 1) cap2], inA (.slice (some ⟨g2, 0, none⟩) (E2.length + 1) cap2) (E2 ++ [y0 + (i : Int)]), setA s S, blkA P2 4 #[.bool false], blkA P4 27 #[.pointer (some ⟨s, 0, none⟩)], rsA (.slice (some ⟨bq, oq, none⟩) S.length ca) S, numA X B v S] (W7.setCell ⟨P9, 0, none⟩ (.slice (some ⟨g2, 0, none⟩) (E2.length + 1) cap2))) := by
                    have hq : Hv w No (blkA P9 55 #[.slice A9 E2.length c9] :: [inA (.slice (some ⟨g2, 0, none⟩) (E2.length + 1) cap2) (E2 ++ [y0 + (i : Int)]), setA s S, blkA P2 4 #[.bool false], blkA P4 27 #[.pointer (some ⟨s, 0, none⟩)], rsA (.slice (some ⟨bq, oq, none⟩) S.length ca) S, numA X B v S]) W7 := HX7.out.pick [1, 0, 2, 3, 4, 5, 6]
                    exact hq.set 0 _
                  refine hK.out _ _ ⟨(HX8.out.blk (i := 0) rfl).frozen 0, (HQR.out _ _ HX8.out rfl).1⟩ (fun hHeld5 => ?_)
                  clear hK K
                  refine wpAnyH_done (by kernel_rfl) ?_ _
                  refine NoPanic.normal ?_
                  clear hHeld hHeld2 hHeld3 hHeld4 hHeld5 c5 c6 HX HX7
                  go_wp2
                  go_roundw
                  case rel => exact ⟨i + 1, by omega, by go_num, _, by rw [HSUC.out]; exact HX8⟩
                  case measure => simp [intOf]; omega
                · go_simp
                  refine hK.out _ _ (HKP.out _ _ _ _ (HX.out.alloc_ _) rfl).2 (fun hHeld2 => ?_)
                  clear hK K
                  have HXA := Lib.hid (HX.out.alloc_ (.cells #[.int .i64 (y0 + (i : Int))] 3))
                  obtain ⟨V8, hV8⟩ : ∃ V8, wr.drew.alloc (.cells #[.int .i64 (y0 + (i : Int))] 3) = V8 := ⟨_, rfl⟩
                  show wpAnyH _ _ _ _ _ _ _ _ (wr.drew.alloc (.cells #[.int .i64 (y0 + (i : Int))] 3))
                  clear hHeld2
                  rw [hV8] at HXA ⊢
                  have HV8 := Lib.hid hV8
                  clear hV8
                  obtain ⟨c2, hHeld2⟩ := HKP.out _ _ _ _ HXA.out rfl
                  refine wpAnyH_ready (rs := [0]) (by kernel_rfl) (by simp) ?_
                  refine AllReadyH.cons rfl (fun K hK => ?_) AllReadyH.nil
                  go_simp
                  refine hK.out _ _ (HKP.out _ _ _ _ HXA.out rfl).2 (fun hHeld3 => ?_)
                  clear hK K
                  refine wpAnyH_ready (rs := [9]) (by kernel_rfl) (by simp) ?_
                  refine AllReadyH.cons rfl (fun K hK => ?_) AllReadyH.nil
                  obtain ⟨g2, cap2, W7, hE, hH⟩ := app_int HX.out 3 HEL.out (y0 + (i : Int))
                  refine step_append_run rfl (.tmp 115) (.tmp 123) 55 rfl (v' := .slice (some ⟨g2, 0, none⟩) (E2.length + 1) cap2) (w' := W7) ?_ ?_
                  · rw [HV8.out] at hE
                    exact hE
                  have HX7 := Lib.hid hH
                  clear hE hH
                  refine hK.out _ _ (HKP.out _ _ _ _ HX7.out rfl).2 (fun hHeld4 => ?_)
                  clear hK K
                  refine wpAnyH_ready (rs := [10]) (by kernel_rfl) (by simp) ?_
                  refine AllReadyH.cons rfl (fun K hK => ?_) AllReadyH.nil
                  obtain ⟨c5, c6, _⟩ := HKP.out _ _ _ _ HX7.out rfl
                  go_simp
                  have HX8 : Hid (Hv w No [blkA P9 55 #[.slice (some ⟨g2, 0, none⟩) (E2.length + 1) cap2], inA (.slice (some ⟨g2, 0, none⟩) (E2.length + 1) cap2) (E2 ++ [y0 + (i : Int)]), setA s S, blkA P2 4 #[.bool false], blkA P4 27 #[.pointer (some ⟨s, 0, none⟩)], rsA (.slice (some ⟨bq, oq, none⟩) S.length ca) S, numA X B v S] (W7.setCell ⟨P9, 0, none⟩ (.slice (some ⟨g2, 0, none⟩) (E2.length + 1) cap2))) := by
                    have hq : Hv w No (blkA P9 55 #[.slice A9 E2.length c9] :: [inA (.slice (some ⟨g2, 0, none⟩) (E2.length + 1) cap2) (E2 ++ [y0 + (i : Int)]), setA s S, blkA P2 4 #[.bool false], blkA P4 27 #[.pointer (some ⟨s, 0, none⟩)], rsA (.slice (some ⟨bq, oq, none⟩) S.length ca) S, numA X B v S]) W7 := HX7.out.pick [1, 0, 2, 3, 4, 5, 6]
                    exact hq.set 0 _
                  refine hK.out _ _ ⟨(HX8.out.blk (i := 0) rfl).frozen 0, (HQR.out _ _ HX8.out rfl).1⟩ (fun hHeld5 => ?_)
                  clear hK K
                  refine wpAnyH_done (by kernel_rfl) ?_ _
                  refine NoPanic.normal ?_
                  clear hHeld hHeld2 hHeld3 hHeld4 hHeld5 c5 c6 HX HX7 HXA HV8
                  go_wp2
                  go_roundw
                  case rel => exact ⟨i + 1, by omega, by go_num, _, by rw [HSUC.out]; exact HX8⟩
                  case measure => simp [intOf]; omega
              · have d4 : decide ((i : Int) < y1) = false := decide_eq_false hiy
                have hi3 : i = y1.toNat := by omega
                have hb40 : S.length ≤ 40 := HSL.out
                subst hi3
                go_wp2_with fail
                go_roundw
                case rel => exact ⟨k2 + 1, by omega, by go_num, by rw [HLS.out], vw2, by rw [HTK.out]; exact HV8⟩
                case measure => simp [intOf]; omega
          · have hkS : S.take k2 = S := List.take_of_length_le (by omega)
            rw [hkS] at HV6
            obtain ⟨la, hla⟩ : ∃ la, la = lastEnd (S.take k2) := ⟨_, rfl⟩
            rw [← hla]
            obtain ⟨E, hE⟩ : ∃ E, E = nums S := ⟨_, rfl⟩
            rw [← hE] at HV6
            have HE : Hid (nums S = E) := hE.symm
            have HEL : Hid ((E.length : Int) = total S) := by show _ = _; rw [hE]; exact nums_length HO.out
            have HEL2 : Hid (E.length ≤ 2400) := by show _ ≤ _; have h1 := HEL.out; have h2 := HTL.out; omega
            have HMEM : Hid (∀ n ∈ E, memB S n = true) := fun n hn => memB_iff.2 (nums_mem (by rw [← hE]; exact hn))
            have dk : decide ((k2 : Int) < (S.length : Int)) = false := decide_eq_false (by omega)
            have dk2 : decide (k2 < S.length) = false := decide_eq_false hks
            clear hkS hla hE
            obtain ⟨A9, c9, e9⟩ : ∃ A9 c9, vw = .slice A9 E.length c9 := by
              have hr := HV6.out.row (i := 1) rfl
              rcases hr.2 with ⟨e, h0⟩ | ⟨g, cap, cur, e, _⟩
              · exact ⟨_, _, by rw [e, h0]⟩
              · exact ⟨_, _, e⟩
            subst e9
            obtain ⟨Tn, hnt⟩ := HV6.out.at_ (i := 6) rfl
            have HNT := Lib.hid hnt.1
            obtain ⟨P13, hP13⟩ : ∃ y, y = wr.heap.size := ⟨_, rfl⟩
            obtain ⟨V6, hV6⟩ : ∃ y, y = wr.alloc (.cells #[.int .i64 0] 3) := ⟨_, rfl⟩
            have HV7 : Hid (Hv w No [blkA P13 3 #[.int .i64 0], blkA P9 55 #[.slice A9 E.length c9], inA (.slice A9 E.length c9) E, setA s S, blkA P2 4 #[.bool false], blkA P4 27 #[.pointer (some ⟨s, 0, none⟩)]] V6) := by
              rw [hP13, hV6]; exact (HV6.out.alloc 3 #[.int .i64 0]).pick [0, 1, 2, 3, 4, 5]
            have HNV : Hid (NT V6 X B v S) := HNT.out.keep fun b hb => by rw [hV6]; exact Below.heap_alloc _ _ _ (HNT.out.blt hb)
            have HTP : Hid (∀ b, NTb X B v b → b ≠ P13) := fun b hb e => by have := HNT.out.blt hb; omega
            have HPL : Hid (P13 < V6.heap.size) := (HV7.out.blk (i := 0) rfl).lt
            clear hnt HNT HV6
            go_wp2_with fail
            rw [← hV6, ← hP13]
            clear hV6 hP13
            refine (wpIn_wide (n := 9)).1 ?_
            refine rangeFunc_deep rfl (by omega) (gf := 36) (lb := #[.pointer (some ⟨X, 0, none⟩)]) rfl trivial (enters_of Try.func36 (by kernel_rfl) rfl)
              (nums_deep HO HNV.out) (fun b hb => HNV.out.blt hb) (fun _ => rfl)
              (fun pre W => Hv w No [blkA P13 3 #[.int .i64 (pre.length : Int)], blkA P9 55 #[.slice A9 E.length c9], inA (.slice A9 E.length c9) E, setA s S, blkA P2 4 #[.bool false], blkA P4 27 #[.pointer (some ⟨s, 0, none⟩)]] W) (fun _ _ => False)
              (hv_own (L := fun pre : List Int => [blkA P13 3 #[.int .i64 (pre.length : Int)], blkA P9 55 #[.slice A9 E.length c9], inA (.slice A9 E.length c9) E, setA s S, blkA P2 4 #[.bool false], blkA P4 27 #[.pointer (some ⟨s, 0, none⟩)]]) (fun pre Y hY => by
                simp only [List.mem_cons, List.not_mem_nil, or_false] at hY
                rcases hY with rfl | rfl | rfl | rfl | rfl | rfl
                · exact celly_blk _ _ _ _
                · exact celly_blk _ _ _ _
                · exact celly_row _ _ _ _ _ _
                · exact celly_set _ _ _
                · exact celly_blk _ _ _ _
                · exact celly_blk _ _ _ _) HV7.out.size) (fun _ _ _ _ hs _ _ => hs) HV7.out ?round ?done ?stop
            case stop => exact fun _ _ _ _ _ h _ => h.elim
            case round =>
              intro l1 pre x U K hi0 hnx hK
              gi_wp2
              intro l2 U1 hl2 hi hsz
              obtain ⟨n, hn, rfl, rfl⟩ := hnx
              have hn2 : n < E.length := by rw [← HE.out]; exact hn
              have hnE : (nums S)[n] = E[n] := by simp only [HE.out]
              have hlen : ((nums S).take n).length = n := by rw [List.length_take]; omega
              rw [hnE]
              rw [hlen] at hi
              obtain ⟨b9, e9, _, k9⟩ := int_row hi (i := 2) rfl n hn2
              have hmem := HMEM.out E[n] (List.getElem_mem hn2)
              obtain ⟨x, hx⟩ : ∃ x, x = E[n] := ⟨_, rfl⟩
              rw [← hx] at k9 hmem ⊢
              cases e9
              have HI := Lib.hid hi
              have HLN : Hid (((nums S).take n ++ [x]).length = n + 1) := by show _ = _; rw [List.length_append, hlen]; rfl
              have HMX := Lib.hid hmem
              have k13 : U1.cell? ⟨P13, 0, none⟩ = some (.int .i64 (n : Int)) := by simpa using (hi.blk (i := 0) rfl).cell 0
              have k90 : U1.cell? ⟨P9, 0, none⟩ = some (.slice (some ⟨b9, 0, none⟩) E.length c9) := by simpa using (hi.blk (i := 1) rfl).cell 0
              have k4 : U1.cell? ⟨P4, 0, none⟩ = some (.pointer (some ⟨s, 0, none⟩)) := by simpa using (hi.blk (i := 5) rfl).cell 0
              obtain ⟨Ts, hTs, _⟩ := Hv.use [setA s S] _ (show Hv w No ([setA s S] ++ []) U1 from hi.pick [3])
              have HTS := Lib.hid hTs
              have f1 : (0 : Int) ≤ (n : Int) := by omega
              have f2 : (n : Int) < (E.length : Int) := by omega
              have d1 : decide ((E.length : Int) ≤ (n : Int)) = false := decide_eq_false (by omega)
              have d2 : decide (E.length ≤ n) = false := decide_eq_false (by omega)
              have d3 : (x != x) = false := by simp
              have e7 : IntKind.i64.wrap ((n : Int) + 1) = (n : Int) + 1 := IntWalk.i64_in _ (by have := HEL2.out; omega)
              have HSZ := Lib.hid hsz
              clear hi hi0 hx hmem hTs hnE hlen hn hsz
              gi_wp2_with fail
              refine ⟨trivial, ?_⟩
              refine (CallsIn.inRound _ (callsIn_wide.2 (has_at s S x _ HTS HO))).mono ?_
              rintro e W2 ⟨rfl, hb2⟩
              rw [HMX.out]
              have HI2 := Lib.hid (HI.out.still hb2)
              have HB2 := Lib.hid hb2
              clear hb2 HI HTS k13 k90 k4 k9
              have k13 : W2.cell? ⟨P13, 0, none⟩ = some (.int .i64 (n : Int)) := by simpa using (HI2.out.blk (i := 0) rfl).cell 0
              have k14 := (HI2.out.blk (i := 0) rfl).frozen 0
              gi_wp2
              refine ⟨⟨Nat.le_trans HB2.out.size (by simp [World.setCell]), fun b hb hb3 => (Below.heap_setCell W2 _ _ b (fun e => by have := HPL.out; simp at e; omega)).trans (HB2.out.block b hb3), fun b hb => (Below.heap_setCell W2 _ _ b (fun e => HTP.out b hb e)).trans (HB2.out.block b (Nat.lt_of_lt_of_le (HNV.out.blt hb) HSZ.out))⟩, ?_⟩
              show Hv w No (blkA P13 3 #[.int .i64 ((((nums S).take n ++ [x]).length : Nat) : Int)] :: _) _
              rw [HLN.out, show ((n + 1 : Nat) : Int) = (n : Int) + 1 by omega]
              exact HI2.out.set 0 (.int .i64 ((n : Int) + 1))
            case done =>
              rintro D1 ys W1 hD1 rfl hi1 hK1
              have HV8 : Hid (Hv w No [defA D1, blkA P13 3 #[.int .i64 (E.length : Int)], blkA P9 55 #[.slice A9 E.length c9], inA (.slice A9 E.length c9) E, setA s S, blkA P2 4 #[.bool false], blkA P4 27 #[.pointer (some ⟨s, 0, none⟩)]] W1) := by
                have h' := hi1.addDef (B := V6.heap.size) (fun Y hY => by
                  simp only [List.mem_cons, List.not_mem_nil, or_false] at hY
                  rcases hY with rfl | rfl | rfl | rfl | rfl | rfl
                  · exact celly_blk _ _ _ _
                  · exact celly_blk _ _ _ _
                  · exact celly_row _ _ _ _ _ _
                  · exact celly_set _ _ _
                  · exact celly_blk _ _ _ _
                  · exact celly_blk _ _ _ _) hD1 HV7.out.size hK1
                rw [HE.out] at h'
                exact h'
              clear hi1 hK1 HV7 hD1 HNV HTP HPL
              go_wp2_with fail
              go_loopw [15] (fun ji wr2 => ∃ j : Nat, j ≤ l.length ∧ ji = .int .i64 j ∧ Hid (Hv w No [defA D1, blkA P13 3 #[.int .i64 (E.length : Int)], blkA P9 55 #[.slice A9 E.length c9], inA (.slice A9 E.length c9) E, setA s S, blkA P2 4 #[.bool false], blkA P4 27 #[.pointer (some ⟨s, 0, none⟩)]] wr2)) (fun ji _ => l.length - (intOf ji).toNat)
              case atStart => exact ⟨0, by omega, rfl, HV8⟩
              case round =>
                clear HV8
                obtain ⟨j, hj, rfl, HV9⟩ := hrel
                by_cases hjl : j < l.length
                · obtain ⟨b, off, rfl, hb, c0, c1⟩ := h.out j hjl
                  have hmy := HMAY.out l[j] (List.getElem_mem hjl)
                  have hnh := HNH.out l[j] (List.getElem_mem hjl)
                  obtain ⟨y, hy⟩ : ∃ y, y = l[j] := ⟨_, rfl⟩
                  rw [← hy] at c0 c1 hmy hnh
                  clear hy
                  obtain ⟨y0, y1⟩ := y
                  obtain ⟨hm0, hm1, hm2⟩ := hmy
                  unfold en at hm2
                  simp only [] at hm0 hm1 hm2 hnh
                  have q0 : ∀ q : ExtB wr.heap.size wr, q.w.cell? ⟨b, off + j * 2, none⟩ = some (.int .i64 y0) := fun q => ((HV9.out.still q.below).below.cell (p := ⟨b, off + j * 2, none⟩) hb).trans c0
                  have q1 : ∀ q : ExtB wr.heap.size wr, q.w.cell? ⟨b, off + j * 2 + 1, none⟩ = some (.int .i64 y1) := fun q => ((HV9.out.still q.below).below.cell (p := ⟨b, off + j * 2 + 1, none⟩) hb).trans c1
                  have q4 : ∀ q : ExtB wr.heap.size wr, q.w.cell? ⟨P4, 0, none⟩ = some (.pointer (some ⟨s, 0, none⟩)) := fun q => by simpa using ((HV9.out.still q.below).blk (i := 6) rfl).cell 0
                  have HHS : Hid (∀ (q : ExtB wr.heap.size wr) (n : Int), memB S n = true → Calls Try.prog 21 #[.pointer (some ⟨s, 0, none⟩), .int .i64 n] q.w fun e w' => e = .returned (.bool true) ∧ Below q.w.heap.size q.w w') := fun q n hn => by
                    obtain ⟨Ts, hTs, _⟩ := Hv.use [setA s S] _ (show Hv w No ([setA s S] ++ []) q.w from (HV9.out.still q.below).pick [4])
                    rw [← hn]
                    exact has_at s S n q.w hTs HO
                  have f1 : (0 : Int) ≤ (j : Int) := by omega
                  have f2 : (j : Int) < (l.length : Int) := by omega
                  have e7 : IntKind.i64.wrap (y0 + y1) = y0 + y1 := IntWalk.i64_in _ (by omega)
                  have e8 : IntKind.i64.wrap (y0 + y1 - 1) = y0 + y1 - 1 := IntWalk.i64_in _ (by omega)
                  clear hb c0 c1
                  by_cases hp : 0 < y1
                  · have d1 : decide (0 < y1) = true := decide_eq_true hp
                    obtain ⟨hh1, hh2⟩ := hnh hp
                    have HH1 := Lib.hid hh1
                    have HH2 := Lib.hid hh2
                    clear hh1 hh2 hnh
                    go_wp2_with fail
                    refine wp_region_quiet_below (by kernel_rfl) (by kernel_rfl) ?_
                    repeat (go_big_quiet_step ((go_at_call 21; exact calls_ext (Nat.le_refl _) _ (HHS.out _ _ (by first | exact HH1.out | exact HH2.out)))))
                    refine wpQuiet_nil ?_
                    intro W2 hw2
                    obtain ⟨q, hq⟩ := hw2
                    have hb2 := q.below
                    rw [← hq] at hb2
                    clear hq q
                    have HVA := Lib.hid (HV9.out.still hb2)
                    clear hb2 q0 q1 q4 HV9 HHS HH1 HH2
                    go_wp2_with fail
                    go_roundw
                    case rel => exact ⟨j + 1, by omega, by go_num, HVA⟩
                    case measure => simp [intOf]; omega
                  · have d1 : decide (0 < y1) = false := decide_eq_false hp
                    clear hnh
                    go_wp2_with fail
                    refine wp_region_quiet_below (by kernel_rfl) (by kernel_rfl) ?_
                    repeat (go_big_quiet_step (fail))
                    refine wpQuiet_nil ?_
                    intro W2 hw2
                    obtain ⟨q, hq⟩ := hw2
                    have hb2 := q.below
                    rw [← hq] at hb2
                    clear hq q
                    have HVA := Lib.hid (HV9.out.still hb2)
                    clear hb2 q0 q1 q4 HV9 HHS
                    go_wp2_with fail
                    go_roundw
                    case rel => exact ⟨j + 1, by omega, by go_num, HVA⟩
                    case measure => simp [intOf]; omega
                · have d1 : decide ((j : Int) < (l.length : Int)) = false := decide_eq_false (by omega)
                  have d2 : decide (j < l.length) = false := decide_eq_false hjl
                  go_wp2_with fail
                  have HKS : Hid (∀ (u : Bool) (W : World), Hv w No [blkA P2 4 #[.bool u], defA D1, blkA P13 3 #[.int .i64 (E.length : Int)], blkA P9 55 #[.slice A9 E.length c9], inA (.slice A9 E.length c9) E, setA s S, blkA P4 27 #[.pointer (some ⟨s, 0, none⟩)]] W → W.cell? ⟨P13, 0, none⟩ = some (.int .i64 (E.length : Int)) ∧ W.cell? ⟨P9, 0, none⟩ = some (.slice A9 E.length c9) ∧ W.cell? ⟨P4, 0, none⟩ = some (.pointer (some ⟨s, 0, none⟩)) ∧ W.frozen? ⟨P2, 0, none⟩ = false) := fun u W hv => ⟨by simpa using (hv.blk (i := 2) rfl).cell 0, by simpa using (hv.blk (i := 3) rfl).cell 0, by simpa using (hv.blk (i := 6) rfl).cell 0, (hv.blk (i := 0) rfl).frozen 0⟩
                  have HX : Hid (Hv w No [blkA P2 4 #[.bool false], defA D1, blkA P13 3 #[.int .i64 (E.length : Int)], blkA P9 55 #[.slice A9 E.length c9], inA (.slice A9 E.length c9) E, setA s S, blkA P4 27 #[.pointer (some ⟨s, 0, none⟩)]] wr.drew) := HV9.out.drew.pick [5, 0, 1, 2, 3, 4, 6]
                  obtain ⟨c1, c2, c3, c4⟩ := HKS.out _ _ HX.out
                  have b1 : ((E.length : Int) == (E.length : Int)) = true := by simp
                  clear HV9 d1 d2
                  go_region_held3 (fun W => W.cell? ⟨P13, 0, none⟩ = some (.int .i64 (E.length : Int)) ∧ W.cell? ⟨P9, 0, none⟩ = some (.slice A9 E.length c9) ∧ W.cell? ⟨P4, 0, none⟩ = some (.pointer (some ⟨s, 0, none⟩)) ∧ W.frozen? ⟨P2, 0, none⟩ = false)
                    (first | exact HKS.out _ _ HX.out | exact HKS.out _ _ (HX.out.set 0 (.bool true)) | assumption | fail)
                    (first
                      | (go_at_call 13; obtain ⟨Ts, hTs, _⟩ := Hv.use [setA s S] [] (HX.out.pick [5]); refine (len_any s S _ hTs HO).mono ?_; rintro e W5 ⟨rfl, hb5⟩; rw [← HEL.out]; have HX := Lib.hid (HX.out.still hb5); clear hb5 hTs)
                      | (go_at_call 9; refine (awake_any _).mono ?_; rintro e W6 ⟨rfl, hb6⟩; have HX := Lib.hid (HX.out.still hb6); have c9' : W6.cell? ⟨P2, 0, none⟩ = some (.bool false) := (by simpa using (HX.out.blk (i := 0) rfl).cell 0); clear hb6)
                      | fail)
                  have HX8 := Lib.hid (HX.out.set 0 (.bool true))
                  clear c1 c2 c3 c4
                  go_wp2
                  refine ⟨by simp, .inl ⟨_, _, rfl, run_takeDeferred (HX8.out.def_ (i := 1) rfl), ?_⟩⟩
                  have HX9 : Hv w No [blkA P2 4 #[.bool true]] _ := ((HX8.out.pick [1, 0]).take (.deferred none))
                  have c7 := (HX9.blk (i := 0) rfl).cell 0
                  simp only [List.getElem?_toArray, List.getElem?_cons_zero] at c7
                  refine ⟨.bool true, ?_, rfl, HX9.below⟩
                  rw [results_cell_one rfl]
                  go_simp
      · have hmn : ∃ y ∈ l, mayB y = false := by
          simp only [Classical.not_forall] at hm
          obtain ⟨y, hy, hm⟩ := hm
          exact ⟨y, hy, by simpa using hm⟩
        refine (new_not A cp l _ HA (by omega) hi hmn).mono ?_
        rintro e w1 ⟨rfl, hb1⟩
        have HV1 := Lib.hid (HV.out.still hb1)
        clear hb1 HV hm hmn HA
        obtain ⟨P4, hP4⟩ : ∃ y, y = w1.heap.size := ⟨_, rfl⟩
        obtain ⟨V1, hV1⟩ : ∃ y, y = w1.alloc (.cells #[.pointer none] 27) := ⟨_, rfl⟩
        have HV2 : Hid (Hv w No [blkA P2 4 #[.bool false]] V1) := by rw [hV1]; exact HV1.out.alloc_ _
        clear HV1
        go_wp2_with fail
        rw [← hV1]
        clear hV1 hP4
        refine (awake_any _).mono ?_
        rintro e w6 ⟨rfl, hb6⟩
        have HV0 := Lib.hid (HV2.out.still hb6)
        clear hb6 HV2
        have c9 : w6.cell? ⟨P2, 0, none⟩ = some (.bool false) := by simpa using (HV0.out.blk (i := 0) rfl).cell 0
        have c10 := (HV0.out.blk (i := 0) rfl).frozen 0
        have HV8 := HV0.out.set 0 (.bool true)
        have c7 := (HV8.blk (i := 0) rfl).cell 0
        simp only [Array.setIfInBounds, List.size_toArray, List.length_cons, List.length_nil, Nat.zero_lt_succ, ↓reduceDIte] at c7
        have HB8 := Lib.hid HV8.below
        clear HV8
        go_wp2
        refine ⟨.bool true, ?_, rfl, HB8.out⟩
        rw [results_cell_one rfl]
        go_simp
end Go.Proofs.Ytelkanfmhfopnaa

/- The walk of IndexPlays. -/
import Derived.Test.YtofeodhekpnpaaaIPlays0
namespace Go.Proofs.Ytofeodhekpnpaaa
open Go.RowKit Go.LawEnd Go.Shelf

attribute [local go_sem] Oper.semAt_some

/-- what a part of the span that may not be has: nothing -/
theorem items_none {l : Pls} {fr N : Int} (h : fr < 0 ∨ N < 0) (k : Nat) : itemsTo l fr N k = [] := by
  induction k with
  | zero => simp [itemsTo]
  | succ k ih =>
    rw [itemsTo_no, ih]
    unfold yes
    rw [Bool.and_eq_false_iff, Bool.and_eq_false_iff, Bool.and_eq_false_iff, decide_eq_false_iff_not, decide_eq_false_iff_not, decide_eq_false_iff_not]
    omega
/-- what there is between two calls -/
def PlI (w : World) (P3 P5 P6 x r slots nb : Nat) (a b fr N : Int) (k : Nat) (W : World) : Prop :=
  ∃ l f n, n ≤ k ∧ Ok slots l f ∧ l.length = nb ∧ Hv w No [idxA x n l f slots, refA r slots l, blkA P6 4 #[.bool false], blkA P5 46 #[.int .i64 fr, .int .i64 N], blkA P3 55 #[.int .i64 a, .int .i64 b]] W

set_option maxRecDepth 100000 in
set_option maxHeartbeats 6400000 in
theorem iplays_main (A : Option Addr) (m cp : Nat) (a b : Nat) (fr N : Int) (w : World) (hm : m ≤ 80) (ha : 1 ≤ a ∧ a ≤ 20) (hb : 1 ≤ b ∧ b ≤ 20) (hfr : fr ≤ 9223372036854775807)
    (hops : Hid (∀ k, k < m → ∃ b off a i s t, A = some ⟨b, off, none⟩ ∧ b < w.heap.size ∧ w.cell? ⟨b, off + k * 4, none⟩ = some (.int .i64 a) ∧ w.cell? ⟨b, off + k * 4 + 1, none⟩ = some (.int .i64 i) ∧ w.cell? ⟨b, off + k * 4 + 2, none⟩ = some (.int .i64 s) ∧ w.cell? ⟨b, off + k * 4 + 3, none⟩ = some (.bool t))) :
    Calls Try.prog 7 #[.agg #[.int .i64 (a : Int), .int .i64 (b : Int)], .slice A m cp, .agg #[.int .i64 fr, .int .i64 N]] w (Yes w) := by
  have hnf := not_nil_func
  refine (callsIn_wide (n := 9)).1 ?_
  refine callsIn_of_wp_marks Try.func7 rfl trivial ?_ rfl
  simp only [Try.ntmps7, List.size_toArray, List.length_cons, List.length_nil, Nat.reduceAdd, Nat.reduceSub, Array.replicate_succ, Array.replicate_zero, List.push_toArray, List.append_toArray, List.nil_append, List.cons_append]
  refine wpIn_wide.2 ?_
  obtain ⟨P3, hP3⟩ : ∃ y, y = w.heap.size := ⟨_, rfl⟩
  obtain ⟨P5, hP5⟩ : ∃ y, y = w.heap.size + 1 := ⟨_, rfl⟩
  obtain ⟨P6, hP6⟩ : ∃ y, y = w.heap.size + 1 + 1 := ⟨_, rfl⟩
  obtain ⟨w0, hw0⟩ : ∃ y, y = ((w.alloc (.cells #[.int .i64 (a : Int), .int .i64 (b : Int)] 55)).alloc (.cells #[.int .i64 fr, .int .i64 N] 46)).alloc (.cells #[.bool false] 4) := ⟨_, rfl⟩
  have HV0 : Hid (Hv w No [blkA P6 4 #[.bool false], blkA P5 46 #[.int .i64 fr, .int .i64 N], blkA P3 55 #[.int .i64 (a : Int), .int .i64 (b : Int)]] w0) := by
    have h := (((Hv.begin w).alloc 55 #[.int .i64 (a : Int), .int .i64 (b : Int)]).alloc 46 #[.int .i64 fr, .int .i64 N]).alloc 4 #[.bool false]
    rw [World.size_alloc, World.size_alloc] at h
    rw [hP6, hP5, hP3, hw0]; exact h
  have d1 : decide ((20 : Int) < (a : Int)) = false := decide_eq_false (by omega)
  have d2 : decide ((20 : Int) < (b : Int)) = false := decide_eq_false (by omega)
  have d3 : decide ((a : Int) < 1) = false := decide_eq_false (by omega)
  have d4 : decide ((4096 : Int) < (a : Int)) = false := decide_eq_false (by omega)
  have d5 : decide ((b : Int) < 1) = false := decide_eq_false (by omega)
  have d6 : decide ((1024 : Int) < (b : Int)) = false := decide_eq_false (by omega)
  have d7 : decide ((80 : Int) < (m : Int)) = false := decide_eq_false (by omega)
  go_wp2_with fail
  rw [← hw0]
  simp only [Nat.add_assoc, Nat.reduceAdd] at hP6 ⊢
  rw [← hP6, ← hP5, ← hP3]
  clear hP3 hP5 hP6 hw0
  refine (new_yes a b w0 (by omega) (by omega) (by omega) (by omega)).mono ?_
  rintro e w1 ⟨x, g, bm, rfl, hx, hg, hbm, hi, hbl⟩
  have HV1 : Hid (Hv w No [idxA x 0 (List.replicate a (-1, false)) (fun _ => none) b, blkA P6 4 #[.bool false], blkA P5 46 #[.int .i64 fr, .int .i64 N], blkA P3 55 #[.int .i64 (a : Int), .int .i64 (b : Int)]] w1) := HV0.out.add (hv_idx hi hx hg hbm hbl)
  clear hx hg hbm hi hbl HV0
  have k0 : w1.cell? ⟨P3, 0, none⟩ = some (.int .i64 (a : Int)) := by simpa using (HV1.out.blk (i := 3) rfl).cell 0
  have k1 : w1.cell? ⟨P3, 1, none⟩ = some (.int .i64 (b : Int)) := by simpa using (HV1.out.blk (i := 3) rfl).cell 1
  go_wp2_with fail
  refine (ref_new a b w1 (by omega)).mono ?_
  rintro e w2 ⟨r, rfl, hrn⟩
  have HV2 : Hid (PlI w P3 P5 P6 x r b a (a : Int) (b : Int) fr N 0 w2) := ⟨_, _, 0, Nat.le_refl _, Ok.start b a, by simp, (HV1.out.add (hv_ref hrn)).pick [1, 0, 2, 3, 4]⟩
  clear hrn HV1 k0 k1 d1 d2 d3 d4 d5 d6 d7
  go_wp2_with fail
  go_loopw [10] (fun i wr => ∃ k : Nat, k ≤ m ∧ i = .int .i64 k ∧ Hid (PlI w P3 P5 P6 x r b a (a : Int) (b : Int) fr N k wr)) (fun i _ => m - (intOf i).toNat)
  case atStart => exact ⟨0, by omega, rfl, HV2⟩
  case round =>
    clear HV2
    obtain ⟨k, hk, rfl, HPI⟩ := hrel
    obtain ⟨l, f, n, hn, hok, hll, hv⟩ := HPI.out
    have HN := Lib.hid hn
    have HOK := Lib.hid hok
    have HLL := Lib.hid hll
    have HV := Lib.hid hv
    clear HPI hn hok hll hv
    by_cases hkm : k < m
    · obtain ⟨bo, off, oa, oi, os, ot, rfl, hbl, c0, c1, c2, c3⟩ := hops.out k hkm
      have hbw := HV.out.below
      have k0 : wr.cell? ⟨bo, off + k * 4, none⟩ = some (.int .i64 oa) := (hbw.cell (p := ⟨bo, off + k * 4, none⟩) hbl).trans c0
      have k1 : wr.cell? ⟨bo, off + k * 4 + 1, none⟩ = some (.int .i64 oi) := (hbw.cell (p := ⟨bo, off + k * 4 + 1, none⟩) hbl).trans c1
      have k2 : wr.cell? ⟨bo, off + k * 4 + 2, none⟩ = some (.int .i64 os) := (hbw.cell (p := ⟨bo, off + k * 4 + 2, none⟩) hbl).trans c2
      have k3 : wr.cell? ⟨bo, off + k * 4 + 3, none⟩ = some (.bool ot) := (hbw.cell (p := ⟨bo, off + k * 4 + 3, none⟩) hbl).trans c3
      clear hbw hbl c0 c1 c2 c3
      have f1 : (0 : Int) ≤ (k : Int) := by omega
      have f2 : (k : Int) < (m : Int) := by omega
      go_wp2_with fail
      obtain ⟨T3, hT3, hJ3⟩ := Hv.use [idxA x n l f b, refA r b l] _ HV.out
      refine (does_any_a oa oi os ot hT3 HOK (by have := HLL.out; omega) (by omega) (by have := HN.out; unfold maxLen; omega)).mono ?_
      rintro e w3 hd
      obtain ⟨rfl, l2, f2', n2, hn2, hok2, hl2, hv2⟩ := hd.of
      have HV3 : Hid (Hv w No [idxA x n2 l2 f2' b, refA r b l2, blkA P6 4 #[.bool false], blkA P5 46 #[.int .i64 fr, .int .i64 N], blkA P3 55 #[.int .i64 (a : Int), .int .i64 (b : Int)]] w3) := hJ3 _ _ hv2
      have HN2 : Hid (n2 ≤ k + 1) := Nat.le_trans hn2 (by have := HN.out; omega)
      have HOK2 := Lib.hid hok2
      have HLL2 : Hid (l2.length = a) := by show _ = _; rw [hl2, HLL.out]
      clear hT3 hJ3 hd hn2 hok2 hl2 hv2 k0 k1 k2 k3 HV HN HOK HLL
      go_wp2_with fail
      obtain ⟨T4, hT4, hJ4⟩ := Hv.use [idxA x n2 l2 f2' b, refA r b l2] _ HV3.out
      refine (same_any hT4 HOK2 (by have := HLL2.out; omega) (by omega)).mono ?_
      rintro e w4 ⟨rfl, hb4⟩
      have HV4 : Hid (PlI w P3 P5 P6 x r b a (a : Int) (b : Int) fr N (k + 1) w4) := ⟨l2, f2', n2, HN2.out, HOK2.out, HLL2.out, HV3.out.still hb4⟩
      clear hT4 hJ4 hb4 HV3 HN2 HOK2 HLL2
      go_wp2_with fail
      go_roundw
      case rel => exact ⟨k + 1, by omega, by go_num, HV4⟩
      case measure => simp [intOf]; omega
    · have c0 : wr.cell? ⟨P5, 0, none⟩ = some (.int .i64 fr) := by simpa using (HV.out.blk (i := 3) rfl).cell 0
      have c1 : wr.cell? ⟨P5, 1, none⟩ = some (.int .i64 N) := by simpa using (HV.out.blk (i := 3) rfl).cell 1
      by_cases hbad : fr < 0 ∨ N < 0
      · obtain ⟨v1, hv1⟩ : ∃ v1, decide (fr < 0) = v1 := ⟨_, rfl⟩
        have hv2 : v1 = false → decide (N < 0) = true := fun e => by
          rw [← hv1, decide_eq_false_iff_not] at e
          exact decide_eq_true (by omega)
        cases v1
        all_goals
          try have hv3 := hv2 rfl
          clear hv2
          go_wp2_with fail
          obtain ⟨T5, hT5, hJ5⟩ := Hv.use [idxA x n l f b] _ HV.out
          obtain ⟨gi, bi, hidx, _⟩ := hT5.out
          refine (all_any fr N (Lib.hid hidx) (by have := HLL.out; omega)).mono ?_
          rintro e w5 ⟨B1, B2, g5, rfl, hit, hB1, hB2, hg1, hbl⟩
          have HV5 : Hid (Hv w No ([blkA P6 4 #[.bool false]] ++ [itA B1 B2 g5 l fr N]) w5) := (HV.out.add (hv_it hit hB1 hB2 hg1 hbl)).pick [3, 0]
          clear hT5 hJ5 hidx hit hB1 hB2 hg1 hbl c0 c1 HV
          go_wp2_with fail
          refine (wpIn_wide (n := 9)).1 ?_
          have HIT : Hid (IT w5 B1 B2 g5 l fr N) := by obtain ⟨T, hT⟩ := HV5.out.last; exact hT.1
          refine rangeFunc_plain rfl (by omega) (gf := 35) (lb := #[.pointer (some ⟨B1, 0, none⟩), .pointer (some ⟨B2, 0, none⟩)]) rfl trivial (enters_of Try.func35 (by kernel_rfl) rfl)
            (all_stops 8 (by omega) (by have := HLL.out; omega) HOK.out.fit HIT.out) (KpT.refl _) KpT.trans (kpT_b (fun b hb => by rcases hb with e | e | e <;> subst e; exact HIT.out.b1.lt; exact HIT.out.b2.lt; exact HIT.out.row.lt)) (fun _ => rfl)
            (fun _ W => w5.heap.size ≤ W.heap.size ∧ Hv w No ([blkA P6 4 #[.bool false]] ++ [itA B1 B2 g5 l fr N]) W) (fun c pre _ => c = .ret ∧ pre ≠ [])
            (OwnFrom.and (fun _ _ _ _ hs hg _ => Nat.le_trans hs hg.size) (hv_own (L := fun _ => [blkA P6 4 #[.bool false]] ++ [itA B1 B2 g5 l fr N]) (fun xs X hX => by
              simp only [List.cons_append, List.nil_append, List.mem_cons, List.not_mem_nil, or_false] at hX
              rcases hX with rfl | rfl
              · exact celly_blk _ _ _ _
              · exact celly_it _ _ _ _ _ _ _) HV5.out.size)) (fun c => pure_own _) ⟨Nat.le_refl _, HV5.out⟩ ?round ?done ?stop
          case round =>
            intro l0 pre0 x0 W0 K hi0 hK
            gi_wp2
            intro l1 pre W hl1 hi hlen
            obtain ⟨hsz, hv⟩ := hi
            obtain ⟨T1, hT, _, hR⟩ := Hv.round (B := w5.heap.size) (A := itA B1 B2 g5 l fr N) (F := ITb B1 B2 g5) (fun h => h.2) [blkA P6 4 #[.bool false]] hv (fun X hX => by
              simp only [List.mem_cons, List.not_mem_nil, or_false] at hX
              subst hX
              exact celly_blk _ _ _ _)
            have H1 := Hv.start hT
            have k6 := (H1.blk (i := 0) rfl).frozen 0
            have k7 : W.cell? ⟨P6, 0, none⟩ = some (.bool false) := by simpa using (H1.blk (i := 0) rfl).cell 0
            have HF := Lib.hid (hR _ _ (H1.set 0 (.bool false))).1
            clear hR hT H1 hv hi0
            gi_wp2
            exact ⟨HF.out, rfl, by simp⟩
          case stop =>
            rintro D1 c pre W hD1 ⟨k, hk, rfl⟩ ⟨rfl, hne⟩ hK1
            exact absurd (items_none hbad k) hne
          case done =>
            rintro D1 ys1 W1 hD1 rfl hi1 hK1
            have HV6 : Hid (Hv w No [blkA P6 4 #[.bool false], defA D1] W1) := by
              have h' := hi1.2.addDef (B := w5.heap.size) (fun X hX => by
                simp only [List.cons_append, List.nil_append, List.mem_cons, List.not_mem_nil, or_false] at hX
                rcases hX with rfl | rfl
                · exact celly_blk _ _ _ _
                · exact celly_it _ _ _ _ _ _ _) hD1 HV5.out.size hK1
              exact h'.pick [1, 0]
            clear hi1 hK1 HV5 hD1 HIT
            go_wp2_with fail
            refine (awake_any _).mono ?_
            rintro e w6 ⟨rfl, hb6⟩
            have HV7 := Lib.hid (HV6.out.still hb6)
            clear hb6 HV6
            have c9 : w6.cell? ⟨P6, 0, none⟩ = some (.bool false) := by simpa using (HV7.out.blk (i := 0) rfl).cell 0
            have c10 := (HV7.out.blk (i := 0) rfl).frozen 0
            have HV8 := Lib.hid (HV7.out.set 0 (.bool true))
            go_wp2
            refine ⟨by simp, .inl ⟨_, _, rfl, run_takeDeferred (HV8.out.def_ (i := 1) rfl), ?_⟩⟩
            have HV9 : Hv w No [blkA P6 4 #[.bool true]] _ := (HV8.out.pick [1, 0]).take (.deferred none)
            have c7 := (HV9.blk (i := 0) rfl).cell 0
            simp only [List.getElem?_toArray, List.getElem?_cons_zero] at c7
            refine ⟨.bool true, ?_, rfl, HV9.below⟩
            rw [results_cell_one rfl]
            go_simp
      · have d1 : decide (fr < 0) = false := decide_eq_false (by omega)
        have d2 : decide (N < 0) = false := decide_eq_false (by omega)
        have hfr0 : 0 ≤ fr := by omega
        clear hbad
        go_wp2_with fail
        obtain ⟨T5, hT5, hJ5⟩ := Hv.use [idxA x n l f b, refA r b l] _ HV.out
        refine (lall_any fr N hT5 HOK (by have := HLL.out; omega) hfr0 hfr).mono ?_
        rintro e w5 ⟨rfl, hb5⟩
        have HV5 := Lib.hid (HV.out.still hb5)
        clear hT5 hJ5 hb5 HV c0 c1
        go_wp2_with fail
        refine (awake_any _).mono ?_
        rintro e w6 ⟨rfl, hb6⟩
        have HV6 : Hid (Hv w No [blkA P6 4 #[.bool false]] w6) := (HV5.out.still hb6).pick [2]
        clear hb6 HV5
        have c9 : w6.cell? ⟨P6, 0, none⟩ = some (.bool false) := by simpa using (HV6.out.blk (i := 0) rfl).cell 0
        have c10 := (HV6.out.blk (i := 0) rfl).frozen 0
        have HV8 := HV6.out.set 0 (.bool true)
        have c7 := (HV8.blk (i := 0) rfl).cell 0
        simp only [Array.setIfInBounds, List.size_toArray, List.length_cons, List.length_nil, Nat.zero_lt_succ, ↓reduceDIte] at c7
        have HB8 := Lib.hid HV8.below
        clear HV8
        go_wp2
        refine ⟨.bool true, ?_, rfl, HB8.out⟩
        rw [results_cell_one rfl]
        go_simp
end Go.Proofs.Ytofeodhekpnpaaa

/- The walk of IndexSpans. -/
import Derived.Test.YtofeodhekpnpaaaDoes3
import Derived.Test.YtofeodhekpnpaaaAll
import Derived.Test.YtofeodhekpnpaaaQbIn
import Derived.Test.YtofeodhekpnpaaaNil
import Derived.Test.YtofeodhekpnpaaaCollect
import Derived.Test.YtofeodhekpnpaaaApp
namespace Go.Proofs.Ytofeodhekpnpaaa
open Go.RowKit Go.LawEnd Go.Shelf

attribute [local go_sem] Oper.semAt_some

set_option maxRecDepth 100000 in
set_option maxHeartbeats 6400000 in
theorem spans_main (A : Option Addr) (m cp : Nat) (fr N : Int) (at_ : Int) (w : World) (hm : m ≤ 80) (hf0 : 0 ≤ fr) (hf1 : fr ≤ 20) (hn0 : 0 ≤ N) (hn1 : N ≤ 20) (ha0 : 0 ≤ at_) (ha1 : at_ ≤ N)
    (hops0 : Hid (∀ k, k < m → ∃ b off a i s t, A = some ⟨b, off, none⟩ ∧ b < w.heap.size ∧ w.cell? ⟨b, off + k * 4, none⟩ = some (.int .i64 a) ∧ w.cell? ⟨b, off + k * 4 + 1, none⟩ = some (.int .i64 i) ∧ w.cell? ⟨b, off + k * 4 + 2, none⟩ = some (.int .i64 s) ∧ w.cell? ⟨b, off + k * 4 + 3, none⟩ = some (.bool t))) :
    Calls Try.prog 5 #[.slice A m cp, .agg #[.int .i64 fr, .int .i64 N], .int .i64 at_] w (Yes w) := by
  have hnf := not_nil_func
  refine (callsIn_wide (n := 9)).1 ?_
  refine callsIn_of_wp_marks Try.func5 rfl trivial ?_ rfl
  simp only [Try.ntmps5, List.size_toArray, List.length_cons, List.length_nil, Nat.reduceAdd, Nat.reduceSub, Array.replicate_succ, Array.replicate_zero, List.push_toArray, List.append_toArray, List.nil_append, List.cons_append]
  refine wpIn_wide.2 ?_
  go_wp2_with fail
  obtain ⟨P4, hP4⟩ : ∃ y, y = w.heap.size := ⟨_, rfl⟩
  obtain ⟨P6, hP6⟩ : ∃ y, y = w.heap.size + 1 := ⟨_, rfl⟩
  obtain ⟨w0, hw0⟩ : ∃ y, y = (w.alloc (.cells #[.int .i64 fr, .int .i64 N] 46)).alloc (.cells #[.bool false] 4) := ⟨_, rfl⟩
  rw [← hw0, ← hP6, ← hP4]
  have HV0 : Hid (Hv w No [blkA P6 4 #[.bool false], blkA P4 46 #[.int .i64 fr, .int .i64 N]] w0) := by
    have h := ((Hv.begin w).alloc 46 #[.int .i64 fr, .int .i64 N]).alloc 4 #[.bool false]
    rw [World.size_alloc] at h
    rw [hP6, hP4, hw0]; exact h
  have hops : Hid (∀ k, k < m → ∃ b off a i s t, A = some ⟨b, off, none⟩ ∧ b < w0.heap.size ∧ w0.cell? ⟨b, off + k * 4, none⟩ = some (.int .i64 a) ∧ w0.cell? ⟨b, off + k * 4 + 1, none⟩ = some (.int .i64 i) ∧ w0.cell? ⟨b, off + k * 4 + 2, none⟩ = some (.int .i64 s) ∧ w0.cell? ⟨b, off + k * 4 + 3, none⟩ = some (.bool t)) := by
    have HB0 := HV0.out.below
    intro k hk
    obtain ⟨b, off, a, i, s, t, e, hb, c0, c1, c2, c3⟩ := hops0.out k hk
    have hz := HB0.size
    exact ⟨b, off, a, i, s, t, e, by omega, (HB0.cell (p := ⟨b, off + k * 4, none⟩) hb).trans c0, (HB0.cell (p := ⟨b, off + k * 4 + 1, none⟩) hb).trans c1, (HB0.cell (p := ⟨b, off + k * 4 + 2, none⟩) hb).trans c2, (HB0.cell (p := ⟨b, off + k * 4 + 3, none⟩) hb).trans c3⟩
  have HPW : Hid (w.heap.size ≤ P4 ∧ w.heap.size ≤ P6) := by refine ⟨?_, ?_⟩ <;> omega
  clear hw0 hP4 hP6 hops0
  refine (new_yes 12 6 w0 (by omega) (by omega) (by omega) (by omega)).mono ?_
  rintro e w1 ⟨x, g, b, rfl, hx, hg, hb, hi, hbl⟩
  have HS1 : Hid (St w1 x g b 0 6 12) := ⟨_, _, hi, Ok.start 6 12, by simp⟩
  have HB1 := Lib.hid hbl
  have HV1 := Lib.hid (HV0.out.still hbl)
  have s0 : w1.cell? ⟨P4, 0, none⟩ = some (.int .i64 fr) := by simpa using (HV1.out.blk (i := 1) rfl).cell 0
  have s1 : w1.cell? ⟨P4, 1, none⟩ = some (.int .i64 N) := by simpa using (HV1.out.blk (i := 1) rfl).cell 1
  clear hi hbl
  go_wp2_with fail
  clear s0 s1 HV1
  go_loopw [9] (fun i wr => ∃ k : Nat, k ≤ m ∧ i = .int .i64 k ∧ St wr x g b k 6 12 ∧ Below w0.heap.size w0 wr) (fun i _ => m - (intOf i).toNat)
  case atStart => exact ⟨0, by omega, rfl, HS1.out, HB1.out⟩
  case round =>
    clear HS1 HB1
    obtain ⟨k, hk, rfl, hst, hbw⟩ := hrel
    have HS := Lib.hid hst
    have HB := Lib.hid hbw
    clear hst hbw
    by_cases hkm : k < m
    · obtain ⟨bo, off, a, i, s, t, rfl, hbl, ha, hi, hs, ht⟩ := hops.out k hkm
      have KEEP : Hid (∀ W : World, Below w0.heap.size w0 W → Below w0.heap.size w0 W ∧ W.cell? ⟨bo, off + k * 4, none⟩ = some (.int .i64 a) ∧ W.cell? ⟨bo, off + k * 4 + 1, none⟩ = some (.int .i64 i) ∧ W.cell? ⟨bo, off + k * 4 + 2, none⟩ = some (.int .i64 s) ∧ W.cell? ⟨bo, off + k * 4 + 3, none⟩ = some (.bool t)) := fun W hW =>
        ⟨hW, (hW.cell (p := ⟨bo, off + k * 4, none⟩) hbl).trans ha, (hW.cell (p := ⟨bo, off + k * 4 + 1, none⟩) hbl).trans hi, (hW.cell (p := ⟨bo, off + k * 4 + 2, none⟩) hbl).trans hs, (hW.cell (p := ⟨bo, off + k * 4 + 3, none⟩) hbl).trans ht⟩
      have HBD : Hid (Below w0.heap.size w0 wr.drew) := Below.drew HB.out
      have HSD : Hid (∃ l f, Idx wr.drew x g b k l f 6 ∧ Ok 6 l f ∧ l.length = 12) := by
        obtain ⟨l, f, h1, h2, h3⟩ := HS.out
        exact ⟨l, f, h1.drew, h2, h3⟩
      obtain ⟨l, f, h1, h2, h3⟩ := HSD.out
      have HID := Lib.hid h1
      have HOK := Lib.hid h2
      have HLL := Lib.hid h3
      clear ha hi hs ht HS HSD h1 h2 h3
      go_wp2_with fail
      go_region_held3 (fun W => Below w0.heap.size w0 W ∧ W.cell? ⟨bo, off + k * 4, none⟩ = some (.int .i64 a) ∧ W.cell? ⟨bo, off + k * 4 + 1, none⟩ = some (.int .i64 i) ∧ W.cell? ⟨bo, off + k * 4 + 2, none⟩ = some (.int .i64 s) ∧ W.cell? ⟨bo, off + k * 4 + 3, none⟩ = some (.bool t))
        (first | exact KEEP.out _ HB4.out | exact KEEP.out _ HB3.out | exact KEEP.out _ HBD.out | assumption | fail)
        (first
          | (go_at_call 12; refine (ref_new 12 6 _ (by decide)).mono ?_; rintro e w3 ⟨r, rfl, hrn⟩; have HRN := Lib.hid hrn; have HB3 := Lib.hid (keep_call HBD.out hrn.below); clear hrn)
          | (go_at_call 11; obtain ⟨vS, vD, hri⟩ := HRN.out.ri; refine (does_any (slots := 6) a i s t (Lib.hid (HID.out.below HRN.out.below (Nat.le_refl _))) HOK.out (by have := HLL.out; omega) (by decide) (by unfold maxLen; omega) (Lib.hid hri) (by decide) HID.out.head.lt HID.out.row.lt HID.out.map.lt HRN.out.below.size).mono ?_; rintro e w4 ⟨v, rfl, hst4, hch4⟩; have HS4 : Hid (St w4 x g b (k + 1) 6 12) := (HLL.out ▸ hst4); have HB4 : Hid (Below w0.heap.size w0 w4) := Ch.after HB3.out hch4 HB3.out.size (fun j e => by have := HBD.out.size; rcases e with rfl | rfl | e <;> first | assumption | omega); clear hst4 hch4 hri)
          | fail)
      all_goals go_wp2
      all_goals go_roundw
      all_goals first
        | exact ⟨k + 1, by omega, by go_num, HS4.out, HB4.out⟩
        | (simp [intOf]; omega)
    · obtain ⟨l, f, h1, h2, h3⟩ := HS.out
      have HI := Lib.hid h1
      have HOK := Lib.hid h2
      have HLL := Lib.hid h3
      have HV := Lib.hid (HV0.out.still HB.out)
      clear HS HB h1 h2 h3
      have s0 : wr.cell? ⟨P4, 0, none⟩ = some (.int .i64 fr) := by simpa using (HV.out.blk (i := 1) rfl).cell 0
      have s1 : wr.cell? ⟨P4, 1, none⟩ = some (.int .i64 N) := by simpa using (HV.out.blk (i := 1) rfl).cell 1
      go_wp2_with fail
      refine (all_any fr at_ HI (by have := HLL.out; omega)).mono ?_
      rintro e w2 ⟨B1, B2, g1, rfl, hit, hB1, hB2, hg1, hbl⟩
      have HV2 : Hid (Hv w No [itA B1 B2 g1 l fr at_, blkA P6 4 #[.bool false], blkA P4 46 #[.int .i64 fr, .int .i64 N]] w2) := HV.out.add (hv_it hit hB1 hB2 hg1 hbl)
      have HI2 := Lib.hid (HI.out.below hbl (Nat.le_refl _))
      clear hit hB1 hB2 hg1 hbl s0 s1 HV HI
      have s0 : w2.cell? ⟨P4, 0, none⟩ = some (.int .i64 fr) := by simpa using (HV2.out.blk (i := 2) rfl).cell 0
      have s1 : w2.cell? ⟨P4, 1, none⟩ = some (.int .i64 N) := by simpa using (HV2.out.blk (i := 2) rfl).cell 1
      go_wp2_with fail
      refine (all_any (fr + at_) (N - at_) HI2 (by have := HLL.out; omega)).mono ?_
      rintro e w3 ⟨B3, B4, g2, rfl, hit, hB1, hB2, hg1, hbl⟩
      have HV3 : Hid (Hv w No [itA B3 B4 g2 l (fr + at_) (N - at_), itA B1 B2 g1 l fr at_, blkA P6 4 #[.bool false], blkA P4 46 #[.int .i64 fr, .int .i64 N]] w3) := HV2.out.add (hv_it hit hB1 hB2 hg1 hbl)
      have HI3 := Lib.hid (HI2.out.below hbl (Nat.le_refl _))
      clear hit hB1 hB2 hg1 hbl s0 s1 HV2 HI2
      have s0 : w3.cell? ⟨P4, 0, none⟩ = some (.int .i64 fr) := by simpa using (HV3.out.blk (i := 3) rfl).cell 0
      have s1 : w3.cell? ⟨P4, 1, none⟩ = some (.int .i64 N) := by simpa using (HV3.out.blk (i := 3) rfl).cell 1
      go_wp2_with fail
      refine (all_any fr N HI3 (by have := HLL.out; omega)).mono ?_
      rintro e w4 ⟨B5, B6, g3, rfl, hit, hB1, hB2, hg1, hbl⟩
      have HV4 : Hid (Hv w No [itA B5 B6 g3 l fr N, itA B3 B4 g2 l (fr + at_) (N - at_), itA B1 B2 g1 l fr at_, blkA P6 4 #[.bool false], blkA P4 46 #[.int .i64 fr, .int .i64 N]] w4) := HV3.out.add (hv_it hit hB1 hB2 hg1 hbl)
      clear hit hB1 hB2 hg1 hbl s0 s1 HV3 HI3
      go_wp2_with fail
      obtain ⟨P13, hP13⟩ : ∃ y, y = w4.heap.size := ⟨_, rfl⟩
      obtain ⟨P14, hP14⟩ : ∃ y, y = w4.heap.size + 1 := ⟨_, rfl⟩
      obtain ⟨w5, hw5⟩ : ∃ y, y = (w4.alloc (.cells #[.slice none 0 0] 50)).alloc (.cells #[.slice none 0 0] 51) := ⟨_, rfl⟩
      rw [← hw5, ← hP14, ← hP13]
      have HV5 : Hid (SI w w5.heap.size P4 P6 P13 P14 fr N [itA B5 B6 g3 l fr N, itA B3 B4 g2 l (fr + at_) (N - at_)] (itA B1 B2 g1 l fr at_) [] w5) := by
        have h := (((HV4.out.alloc 50 #[.slice none 0 0]).alloc 51 #[.slice none 0 0]).nilRow 3 1).nilRow 35 2
        rw [World.size_alloc] at h
        refine ⟨Nat.le_refl _, .slice none 0 0, .slice none 0 0, ?_⟩
        rw [hP13, hP14, hw5]
        exact h.pick [3, 1, 2, 0, 7, 8, 4, 5, 6]
      have HM : Hid (∀ Pb, w5.heap.size ≤ Pb → (∀ X ∈ [itA B5 B6 g3 l fr N, itA B3 B4 g2 l (fr + at_) (N - at_)], X.Misses Pb) ∧ P13 ≠ Pb ∧ P14 ≠ Pb ∧ P6 ≠ Pb ∧ P4 ≠ Pb) := by
        intro Pb hPb
        obtain ⟨_, vB, vP, h⟩ := HV5.out
        obtain ⟨_, q1⟩ := h.at_ (i := 6) rfl
        obtain ⟨_, q2⟩ := h.at_ (i := 7) rfl
        have a1 := q1.1.b1.lt
        have a2 := q1.1.b2.lt
        have a3 := q1.1.row.lt
        have a4 := q2.1.b1.lt
        have a5 := q2.1.b2.lt
        have a6 := q2.1.row.lt
        have c1 := (h.blk (i := 0) rfl).lt
        have c2 := (h.blk (i := 2) rfl).lt
        have c3 := (h.blk (i := 4) rfl).lt
        have c4 := (h.blk (i := 5) rfl).lt
        refine ⟨?_, by omega, by omega, by omega, by omega⟩
        intro X hX
        simp only [List.mem_cons, List.not_mem_nil, or_false] at hX
        rcases hX with rfl | rfl
        · exact misses_it (by rintro (e | e | e) <;> omega)
        · exact misses_it (by rintro (e | e | e) <;> omega)
      clear hw5 hP13 hP14 HV4
      refine (wpIn_wide (n := 9)).1 ?_
      refine rangeFunc_box rfl (by omega) (gf := 35) (lb := #[.pointer (some ⟨B1, 0, none⟩), .pointer (some ⟨B2, 0, none⟩)]) rfl trivial (enters_of Try.func35 (by kernel_rfl) rfl)
        (all_stops 8 (by omega) (by have := HLL.out; omega) HOK.out.fit (HV5.out.it)) KpT.trans (kpT_b (HV5.out.itlt)) (fun _ => rfl)
        (SI w w5.heap.size P4 P6 P13 P14 fr N [itA B5 B6 g3 l fr N, itA B3 B4 g2 l (fr + at_) (N - at_)] (itA B1 B2 g1 l fr at_)) (fun _ _ _ => False) (SI.own (by simpa using ⟨celly_it _ _ _ _ _ _ _, celly_it _ _ _ _ _ _ _⟩) (celly_it _ _ _ _ _ _ _) HV5.out.size) (fun _ _ _ _ _ hs _ _ => hs) HV5.out
        35 (fun x => #[.int .i64 x.2.1, .bool x.2.2]) [(P14, 51)] ?keep ?round ?done ?stop
      case keep => exact fun pre x W hi => keep_si _ hi
      case round =>
        intro l0 pre0 x0 W0 K hi0 hK
        gi_wp2
        clear hi0
        generalize W0.heap.size = Pb
        intro l1 pre W hl1 hr1 hi hPb hk hh hlen
        obtain ⟨hsz, vB, vP, hv⟩ := hi
        obtain ⟨v, hv1, hv2⟩ := hh (P14, 51) (by simp)
        have hvP := blk_one (hv.blk (i := 2) rfl) hv1
        subst hvP
        obtain ⟨g1', c1, W1, g2', c2, W2, E1, k0, k1, k2, k3, k4, k5, E2, k6, k7, F1, F2, F3⟩ := collect (B := w5.heap.size) x0.1 x0.2.1 x0.2.2 hv hk hv2 (HM.out Pb hPb).1 (HM.out Pb hPb).2.1 (HM.out Pb hPb).2.2.1 (HM.out Pb hPb).2.2.2.1 (HM.out Pb hPb).2.2.2.2 (by simpa using ⟨celly_it _ _ _ _ _ _ _, celly_it _ _ _ _ _ _ _⟩) (by have := HLL.out; omega) hsz
        have HF := Lib.hid (And.intro F1 (And.intro F2 F3))
        have HE1 := Lib.hid E1
        have HE2 := Lib.hid E2
        clear F1 F2 F3 hv hk hh hv1 hv2 hr1 E1 E2
        gi_wp2_with (first
          | (gi_at_builtin; refine wpListIn_append_run rfl (.tmp 122) (.tmp 124) _ rfl HE1.out ?_)
          | (gi_at_builtin; refine wpListIn_append_run rfl (.tmp 126) (.tmp 128) _ rfl HE2.out ?_))
        exact HF.out
      case stop => exact fun _ _ _ _ _ _ h _ => h.elim
      case done =>
        rintro D1 ys1 W1 hD1 rfl hi1 hK1
        have HV6 : Hid (SI w W1.heap.size P4 P6 P13 P14 fr N [defA D1, itA B5 B6 g3 l fr N] (itA B3 B4 g2 l (fr + at_) (N - at_)) (itemsTo l fr at_ l.length ++ []) W1) := by
          obtain ⟨_, vB, vP, h⟩ := hi1
          have h' := h.addDef (B := w5.heap.size) (fun X hX => by
            simp only [List.cons_append, List.nil_append, List.mem_cons, List.not_mem_nil, or_false] at hX
            rcases hX with rfl | rfl | rfl | rfl | rfl | rfl | rfl | rfl | rfl
            · exact celly_blk _ _ _ _
            · exact celly_row _ _ _ _ _ _
            · exact celly_blk _ _ _ _
            · exact celly_row _ _ _ _ _ _
            · exact celly_blk _ _ _ _
            · exact celly_blk _ _ _ _
            · exact celly_it _ _ _ _ _ _ _
            · exact celly_it _ _ _ _ _ _ _
            · exact celly_it _ _ _ _ _ _ _) hD1 HV5.out.size hK1
          rw [List.append_nil]
          exact ⟨Nat.le_refl _, vB, vP, h'.pick [1, 2, 3, 4, 5, 6, 0, 7, 8]⟩
        have hDW1 := lt_of_obj hK1
        clear hi1 hK1 HV5 HM hD1
        have HM : Hid (∀ Pb, W1.heap.size ≤ Pb → (∀ X ∈ [defA D1, itA B5 B6 g3 l fr N], X.Misses Pb) ∧ P13 ≠ Pb ∧ P14 ≠ Pb ∧ P6 ≠ Pb ∧ P4 ≠ Pb) := by
          intro Pb hPb
          obtain ⟨_, vB, vP, h⟩ := HV6.out
          obtain ⟨_, q1⟩ := h.at_ (i := 7) rfl
          have a1 := q1.1.b1.lt
          have a2 := q1.1.b2.lt
          have a3 := q1.1.row.lt
          have c1 := (h.blk (i := 0) rfl).lt
          have c2 := (h.blk (i := 2) rfl).lt
          have c3 := (h.blk (i := 4) rfl).lt
          have c4 := (h.blk (i := 5) rfl).lt
          refine ⟨?_, by omega, by omega, by omega, by omega⟩
          intro X hX
          simp only [List.mem_cons, List.not_mem_nil, or_false] at hX
          rcases hX with rfl | rfl
          · exact misses_def (by omega)
          · exact misses_it (by rintro (e | e | e) <;> omega)
        go_wp2_with fail
        refine (wpIn_wide (n := 9)).1 ?_
        refine rangeFunc_box rfl (by omega) (gf := 35) (lb := #[.pointer (some ⟨B3, 0, none⟩), .pointer (some ⟨B4, 0, none⟩)]) rfl trivial (enters_of Try.func35 (by kernel_rfl) rfl)
          (all_stops 8 (by omega) (by have := HLL.out; omega) HOK.out.fit (HV6.out.it)) KpT.trans (kpT_b (HV6.out.itlt)) (fun _ => rfl)
          (fun pre => SI w W1.heap.size P4 P6 P13 P14 fr N [defA D1, itA B5 B6 g3 l fr N] (itA B3 B4 g2 l (fr + at_) (N - at_)) (itemsTo l fr at_ l.length ++ pre)) (fun _ _ _ => False) (own_comp (SI.own (by simpa using ⟨celly_def hDW1, celly_it _ _ _ _ _ _ _⟩) (celly_it _ _ _ _ _ _ _) HV6.out.size) _) (fun _ _ _ _ _ hs _ _ => hs) HV6.out
          35 (fun x => #[.int .i64 x.2.1, .bool x.2.2]) [(P14, 51)] ?keep ?round ?done ?stop
        case keep => exact fun pre x W hi => keep_si _ hi
        case stop => exact fun _ _ _ _ _ _ h _ => h.elim
        case round =>
          intro l0 pre0 x0 W0 K hi0 hK
          gi_wp2
          clear hi0
          generalize W0.heap.size = Pb
          intro l1 pre W hl1 hr1 hi hPb hk hh hlen
          obtain ⟨hsz, vB, vP, hv⟩ := hi
          obtain ⟨v, hv1, hv2⟩ := hh (P14, 51) (by simp)
          have hvP := blk_one (hv.blk (i := 2) rfl) hv1
          subst hvP
          obtain ⟨g1', c1, W2, g2', c2, W3, E1, k0, k1, k2, k3, k4, k5, E2, k6, k7, F1, F2, F3⟩ := collect (B := W1.heap.size) x0.1 x0.2.1 x0.2.2 hv hk hv2 (HM.out Pb hPb).1 (HM.out Pb hPb).2.1 (HM.out Pb hPb).2.2.1 (HM.out Pb hPb).2.2.2.1 (HM.out Pb hPb).2.2.2.2 (by simpa using ⟨celly_def hDW1, celly_it _ _ _ _ _ _ _⟩) (by have h1 := HLL.out; have h2 := itemsTo_length l fr at_ l.length; rw [List.length_append]; omega) hsz
          rw [List.append_assoc] at F3
          have HF := Lib.hid (And.intro F1 (And.intro F2 F3))
          have HE1 := Lib.hid E1
          have HE2 := Lib.hid E2
          clear F1 F2 F3 hv hk hh hv1 hv2 hr1 E1 E2
          obtain ⟨L, hL⟩ : ∃ L, (itemsTo l fr at_ l.length ++ pre).length = L := ⟨_, rfl⟩
          rw [hL] at HE1 HE2 HF k3 k4 k5
          have hLb : L ≤ 8192 := by have h1 := HLL.out; have h2 := itemsTo_length l fr at_ l.length; rw [List.length_append] at hL; omega
          clear hL
          gi_wp2_with (first
            | (gi_at_builtin; refine wpListIn_append_run rfl (.tmp 133) (.tmp 135) _ rfl HE1.out ?_)
            | (gi_at_builtin; refine wpListIn_append_run rfl (.tmp 137) (.tmp 139) _ rfl HE2.out ?_))
          exact HF.out
        case done =>
          rintro D2 ys2 W2 hD2 rfl hi2 hK2
          rw [items_parts l fr N at_ l.length hf0 ha0 ha1] at hi2
          obtain ⟨_, vB, vP, h⟩ := hi2
          obtain ⟨AB, cB, rfl⟩ := (Rd.of_own (h.row (i := 1) rfl)).form
          obtain ⟨AP, cP, rfl⟩ := (Rd.of_own (h.row (i := 3) rfl)).form
          have hDW2 := lt_of_obj hK2
          have hzW := (h.size : w.heap.size ≤ W2.heap.size)
          have HV7 : Hid (S3 w (W2.heap.size + 1) P4 P6 P13 P14 W2.heap.size D1 D2 fr N (.slice AB (itemsTo l fr N l.length).length cB) (.slice AP (itemsTo l fr N l.length).length cP) (itA B5 B6 g3 l fr N) (itemsTo l fr N l.length) 0 (W2.alloc (.cells #[.int .i64 0] 3))) := by
            have h' := (h.addDef (B := W1.heap.size) (fun X hX => by
              simp only [List.cons_append, List.nil_append, List.mem_cons, List.not_mem_nil, or_false] at hX
              rcases hX with rfl | rfl | rfl | rfl | rfl | rfl | rfl | rfl | rfl
              · exact celly_blk _ _ _ _
              · exact celly_row _ _ _ _ _ _
              · exact celly_blk _ _ _ _
              · exact celly_row _ _ _ _ _ _
              · exact celly_blk _ _ _ _
              · exact celly_blk _ _ _ _
              · exact celly_def hDW1
              · exact celly_it _ _ _ _ _ _ _
              · exact celly_it _ _ _ _ _ _ _) hD2 HV6.out.size hK2).alloc 3 #[.int .i64 0]
            exact ⟨by simp, h'.pick [0, 2, 3, 4, 5, 6, 7, 1, 8, 9]⟩
          have hDW1' : D1 < W2.heap.size + 1 := by
            have := lt_of_obj (h.def_ (i := 6) rfl); omega
          clear h hK2 HV6 HM hD2 hDW1
          obtain ⟨E, hE⟩ : ∃ E, itemsTo l fr N l.length = E := ⟨_, rfl⟩
          have hEl : E.length ≤ 12 := by have h1 := HLL.out; have h2 := itemsTo_length l fr N l.length; rw [hE] at h2; omega
          have HSP : Hid (∀ k, itemsTo l fr N k <+: E ∨ l.length < k) := by
            intro k
            by_cases hk : k ≤ l.length
            · left; rw [← hE]; exact itemsTo_prefix l fr N hk
            · right; omega
          rw [hE] at HV7
          have HE := Lib.hid hE
          clear hE
          obtain ⟨EN, hEN⟩ : ∃ n, E.length = n := ⟨_, rfl⟩
          go_wp2_with fail
          obtain ⟨P19, hP19⟩ : ∃ y, y = W2.heap.size := ⟨_, rfl⟩
          obtain ⟨w8, hw8⟩ : ∃ y, y = W2.alloc (.cells #[.int .i64 0] 3) := ⟨_, rfl⟩
          have hz8 : w8.heap.size = W2.heap.size + 1 := by rw [hw8]; simp
          rw [← hw8, ← hz8, ← hP19] at HV7
          rw [← hw8, ← hP19]
          have hD1' : D1 < w8.heap.size := by omega
          have hD2' : D2 < w8.heap.size := by omega
          have hw' : w.heap.size ≤ w8.heap.size := by omega
          clear hz8 hw8 hP19 hDW1' hDW2 hzW
          refine (wpIn_wide (n := 9)).1 ?_
          refine rangeFunc_box rfl (by omega) (gf := 35) (lb := #[.pointer (some ⟨B5, 0, none⟩), .pointer (some ⟨B6, 0, none⟩)]) rfl trivial (enters_of Try.func35 (by kernel_rfl) rfl)
            (all_stops 8 (by omega) (by have := HLL.out; omega) HOK.out.fit (HV7.out.it)) KpT.trans (kpT_b (HV7.out.itlt)) (fun _ => rfl)
            (fun pre W => S3 w w8.heap.size P4 P6 P13 P14 P19 D1 D2 fr N (.slice AB E.length cB) (.slice AP E.length cP) (itA B5 B6 g3 l fr N) E pre.length W ∧ pre <+: E) (fun _ pre _ => ¬ pre <+: E)
            (OwnFrom.and (S3.own (celly_it _ _ _ _ _ _ _) hD1' hD2' hw') (pure_own _)) (fun _ => pure_own _) ⟨HV7.out, List.nil_prefix⟩
            35 (fun x => #[.int .i64 x.2.1, .bool x.2.2]) [] ?keep ?round ?done ?stop
          case keep =>
            intro pre x W hi
            exact ⟨hi.1.1, kpT_below hi.1.itlt ((Below.refl _ W).alloc (Nat.le_refl _) _), fun p hp => by cases hp⟩
          case stop =>
            rintro D c pre W _ ⟨k9, hk9, rfl⟩ hn _
            refine absurd ?_ hn
            rw [← HE.out]
            exact itemsTo_prefix l fr N hk9
          case round =>
            intro l0 pre0 x0 W0 K hi0 hK
            gi_wp2
            clear hi0
            generalize W0.heap.size = Pb
            intro l1 pre W hl1 hr1 hi hPb hk hh hlen
            obtain ⟨hS3, hpre⟩ := hi
            have HR := Lib.hid hS3.read
            have ln := lt_of_obj (hS3.2.blk (i := 0) rfl)
            have lb := lt_of_obj (hS3.2.blk (i := 1) rfl)
            have lp := lt_of_obj (hS3.2.blk (i := 3) rfl)
            have lk := hk.lt
            have q1 : ∀ q : ExtB W.heap.size W, q.w.cell? ⟨P19, 0, none⟩ = some (.int .i64 (pre.length : Int)) := fun q => (q.below.cell (p := ⟨P19, 0, none⟩) ln).trans HR.out.n
            have q2 : ∀ q : ExtB W.heap.size W, q.w.cell? ⟨P13, 0, none⟩ = some (.slice AB EN cB) := fun q => (q.below.cell (p := ⟨P13, 0, none⟩) lb).trans (by rw [← hEN]; exact HR.out.b)
            have q3 : ∀ q : ExtB W.heap.size W, q.w.cell? ⟨P14, 0, none⟩ = some (.slice AP EN cP) := fun q => (q.below.cell (p := ⟨P14, 0, none⟩) lp).trans (by rw [← hEN]; exact HR.out.p)
            have q4 : ∀ q : ExtB W.heap.size W, q.w.cell? ⟨Pb, 0, none⟩ = some (.int .i64 x0.2.1) := fun q => (q.below.cell (p := ⟨Pb, 0, none⟩) lk).trans (by simpa using hk.cell 0)
            have q5 : ∀ q : ExtB W.heap.size W, q.w.cell? ⟨Pb, 1, none⟩ = some (.bool x0.2.2) := fun q => (q.below.cell (p := ⟨Pb, 1, none⟩) lk).trans (by simpa using hk.cell 1)
            have HS := Lib.hid hS3
            have HPRE := Lib.hid hpre
            clear hS3 hpre hk hh hr1 ln lb lp lk
            obtain ⟨k3, hk3⟩ : ∃ y, pre.length = y := ⟨_, rfl⟩
            have hk3b : k3 ≤ 12 := by have := HLL.out; omega
            have HK3 := Lib.hid hk3
            rw [hk3] at q1
            clear hk3 hlen
            by_cases hlt : k3 < EN
            · have hltE : pre.length < E.length := by rw [HK3.out, hEN]; exact hlt
              obtain ⟨gB, gP, rfl, rfl, lgB, lgP, r1, r2, r3⟩ := HR.out.at_ hltE
              have q6 : ∀ q : ExtB W.heap.size W, q.w.cell? ⟨gB, k3, none⟩ = some (.int .i64 ((pr E k3).1 : Int)) := fun q => by rw [← HK3.out]; exact (q.below.cell (p := ⟨gB, pre.length, none⟩) lgB).trans r1
              have q7 : ∀ q : ExtB W.heap.size W, q.w.cell? ⟨gP, k3 * 2, none⟩ = some (.int .i64 (pr E k3).2.1) := fun q => by rw [← HK3.out]; exact (q.below.cell (p := ⟨gP, pre.length * 2, none⟩) lgP).trans r2
              have q8 : ∀ q : ExtB W.heap.size W, q.w.cell? ⟨gP, k3 * 2 + 1, none⟩ = some (.bool (pr E k3).2.2) := fun q => by rw [← HK3.out]; exact (q.below.cell (p := ⟨gP, pre.length * 2 + 1, none⟩) lgP).trans r3
              have HPS := Lib.hid (prefix_snoc (x := x0) HPRE.out hltE)
              obtain ⟨e1, he1⟩ : ∃ y, (pr E k3).1 = y := ⟨_, rfl⟩
              obtain ⟨e2, he2⟩ : ∃ y, (pr E k3).2.1 = y := ⟨_, rfl⟩
              obtain ⟨e3, he3⟩ : ∃ y, (pr E k3).2.2 = y := ⟨_, rfl⟩
              obtain ⟨x1, x2, x3⟩ := x0
              rw [he1] at q6
              rw [he2] at q7
              rw [he3] at q8
              have HPE : Hid (pr E pre.length = (e1, e2, e3)) := by rw [HK3.out, ← he1, ← he2, ← he3]; exact rfl
              clear he1 he2 he3 r1 r2 r3 lgB lgP hltE
              have i0 : (0 : Int) ≤ (k3 : Int) := by omega
              have i1 : (k3 : Int) < (EN : Int) := by omega
              have e0 : decide ((EN : Int) ≤ (k3 : Int)) = false := decide_eq_false (by omega)
              have e0' : decide (EN ≤ k3) = false := decide_eq_false (by omega)
              by_cases hx1 : e1 = x1
              · subst hx1
                by_cases hx : e2 = x2 ∧ e3 = x3
                · obtain ⟨rfl, rfl⟩ := hx
                  have HNP : Hid (pre ++ [(e1, e2, e3)] <+: E) := HPS.out.2 HPE.out
                  clear hlt
                  gi_wp2_with fail
                  refine wpIn_region_quiet_below (by kernel_rfl) (by kernel_rfl) (by kernel_rfl) ?_
                  repeat (gi_big_quiet_step (fail))
                  refine wpQuietIn_nil ?_
                  intro w2 hw2
                  obtain ⟨q, hq⟩ := hw2
                  have hb2 := q.below
                  rw [← hq] at hb2
                  clear hq q
                  have HB2 := Lib.hid hb2
                  clear hb2 q1 q2 q3 q4 q5 q6 q7 q8
                  obtain ⟨f1, f2, f3, f4, f5⟩ := S3.next hD1' hD2' HS.out HB2.out
                  rw [HK3.out] at f1 f3 f4 f5
                  have HF3 := Lib.hid (And.intro f3 (And.intro f4 f5))
                  clear f3 f4 f5
                  gi_wp2
                  refine ⟨HF3.out.1, HF3.out.2.1, ?_, HNP.out⟩
                  rw [List.length_append, HK3.out]
                  exact HF3.out.2.2
                · have HNP : Hid (¬ pre ++ [(e1, x2, x3)] <+: E) := fun hp => by
                    have h := HPS.out.1 hp
                    rw [HPE.out] at h
                    injection h with _ h
                    injection h with h1 h2
                    exact hx ⟨h1, h2⟩
                  clear hlt
                  by_cases hx2 : e2 = x2
                  · subst hx2
                    have hb3 : e3 = !x3 := by cases e3 <;> cases x3 <;> simp_all
                    subst hb3
                    clear hx
                    cases x3
                    all_goals
                      gi_wp2_with fail
                      refine wpIn_region_quiet_below (by kernel_rfl) (by kernel_rfl) (by kernel_rfl) ?_
                      repeat (gi_big_quiet_step (fail))
                      refine wpQuietIn_nil ?_
                      intro w2 hw2
                      obtain ⟨q, hq⟩ := hw2
                      have hb2 := q.below
                      rw [← hq] at hb2
                      clear hq q
                      have HB2 := Lib.hid hb2
                      clear hb2 q1 q2 q3 q4 q5 q6 q7 q8
                      obtain ⟨f1, f2, f3⟩ := S3.fail_ hD1' hD2' HS.out HB2.out
                      have HF3 := Lib.hid f3
                      clear f3
                      gi_wp2
                      exact ⟨HF3.out, HNP.out⟩
                  · have hb3 : (e2 == x2) = false := by rw [beq_eq_false_iff_ne]; exact hx2
                    clear hx hx2
                    gi_wp2_with fail
                    refine wpIn_region_quiet_below (by kernel_rfl) (by kernel_rfl) (by kernel_rfl) ?_
                    repeat (gi_big_quiet_step (fail))
                    refine wpQuietIn_nil ?_
                    intro w2 hw2
                    obtain ⟨q, hq⟩ := hw2
                    have hb2 := q.below
                    rw [← hq] at hb2
                    clear hq q
                    have HB2 := Lib.hid hb2
                    clear hb2 q1 q2 q3 q4 q5 q6 q7 q8
                    obtain ⟨f1, f2, f3⟩ := S3.fail_ hD1' hD2' HS.out HB2.out
                    have HF3 := Lib.hid f3
                    clear f3
                    gi_wp2
                    exact ⟨HF3.out, HNP.out⟩
              · have HNP : Hid (¬ pre ++ [(x1, x2, x3)] <+: E) := fun hp => by
                  have h := HPS.out.1 hp
                  rw [HPE.out] at h
                  injection h with h _
                  exact hx1 h
                have hbe : (((e1 : Nat) : Int) != ((x1 : Nat) : Int)) = true := by simpa using (fun h : (e1 : Int) = (x1 : Int) => hx1 (by omega))
                clear hlt hx1
                gi_wp2_with fail
                refine wpIn_region_quiet_below (by kernel_rfl) (by kernel_rfl) (by kernel_rfl) ?_
                repeat (gi_big_quiet_step (fail))
                refine wpQuietIn_nil ?_
                intro w2 hw2
                obtain ⟨q, hq⟩ := hw2
                have hb2 := q.below
                rw [← hq] at hb2
                clear hq q
                have HB2 := Lib.hid hb2
                clear hb2 q1 q2 q3 q4 q5 q6 q7 q8
                obtain ⟨f1, f2, f3⟩ := S3.fail_ hD1' hD2' HS.out HB2.out
                have HF3 := Lib.hid f3
                clear f3
                gi_wp2
                exact ⟨HF3.out, HNP.out⟩
            · have hge : (EN : Int) ≤ (k3 : Int) := by omega
              have e0 : decide ((EN : Int) ≤ (k3 : Int)) = true := decide_eq_true hge
              have HNP : Hid (¬ pre ++ [x0] <+: E) := fun hp => by
                have := hp.length_le
                have h1 := HK3.out
                simp at this
                omega
              clear hlt
              gi_wp2_with fail
              refine wpIn_region_quiet_below (by kernel_rfl) (by kernel_rfl) (by kernel_rfl) ?_
              repeat (gi_big_quiet_step (fail))
              refine wpQuietIn_nil ?_
              intro w2 hw2
              obtain ⟨q, hq⟩ := hw2
              have hb2 := q.below
              rw [← hq] at hb2
              clear hq q
              have HB2 := Lib.hid hb2
              clear hb2 q1 q2 q3 q4 q5
              obtain ⟨f1, f2, f3⟩ := S3.fail_ hD1' hD2' HS.out HB2.out
              have HF3 := Lib.hid f3
              clear f3
              gi_wp2
              exact ⟨HF3.out, HNP.out⟩
          case done =>
            intro D3 ys3 W3 hD3 hys hi3 hK3
            rw [HE.out] at hys
            subst hys
            have h3 := hi3.1
            have HV9 := Lib.hid (h3.2.addDef (B := w8.heap.size) (fun X hX => by
              rcases List.mem_append.1 hX with h | h
              · exact S3.celly hD1' hD2' X h
              · rw [List.mem_singleton.1 h]; exact celly_it _ _ _ _ _ _ _) hD3 hw' hK3)
            have r1 := h3.read.n
            have r2 := h3.read.b
            rw [hEN] at r1 r2
            clear hi3 h3 hK3 hD3
            go_wp2_with fail
            refine (awake_any _).mono ?_
            rintro e W4 ⟨rfl, hb4⟩
            have HV10 := Lib.hid (HV9.out.still hb4)
            clear hb4 r1 r2 HV9
            have p1 : W4.cell? ⟨P6, 0, none⟩ = some (.bool false) := by simpa using (HV10.out.blk (i := 6) rfl).cell 0
            have p2 := (HV10.out.blk (i := 6) rfl).frozen 0
            have HV11 : Hid (Hv w No [defA D3, defA D2, defA D1, blkA P6 4 #[.bool true]] (W4.setCell ⟨P6, 0, none⟩ (.bool true))) := by
              have h := (HV10.out.pick [6, 0, 8, 9]).set 0 (.bool true)
              exact h.pick [1, 2, 3, 0]
            go_wp2
            refine ⟨by simp, .inl ⟨_, _, rfl, run_takeDeferred (HV11.out.def_ (i := 0) rfl), ?_⟩⟩
            have HV12 := HV11.out.take (.deferred none)
            refine ⟨by simp, .inl ⟨_, _, rfl, run_takeDeferred (HV12.def_ (i := 0) rfl), ?_⟩⟩
            have HV13 := HV12.take (.deferred none)
            refine ⟨by simp, .inl ⟨_, _, rfl, run_takeDeferred (HV13.def_ (i := 0) rfl), ?_⟩⟩
            have HV14 := HV13.take (.deferred none)
            have c6 := (HV14.blk (i := 0) rfl).cell 0
            simp only [List.getElem?_toArray, List.getElem?_cons_zero] at c6
            refine ⟨.bool true, ?_, rfl, HV14.below⟩
            rw [results_cell_one rfl]
            go_simp
end Go.Proofs.Ytofeodhekpnpaaa


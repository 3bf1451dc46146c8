/- The walk of the law's all. -/
import Derived.Test.YtofeodhekpnpaaaIAllPlain
import Derived.Test.YtofeodhekpnpaaaSepR
namespace Go.Proofs.Ytofeodhekpnpaaa
open Go.RowKit Go.LawEnd Go.Shelf

attribute [local go_sem] Oper.semAt_some

/-- what is there between two rounds -/
def AI (w : World) (B0 P4 P5 P6 P8 P9 B1 B2 r : Nat) (g : Rowd) (fr N : Int) (l : Pls) (xs : List It) (W : World) : Prop :=
  B0 ≤ W.heap.size ∧ Hv w No ([blkA P8 3 #[.int .i64 (xs.length : Int)], blkA P9 3 #[.int .i64 (lastOf xs)], blkA P6 4 #[.bool false], blkA P5 46 #[.int .i64 fr, .int .i64 N], blkA P4 29 #[.pointer (some ⟨r, 0, none⟩)]] ++ [itA B1 B2 g l fr N]) W
theorem AI.celly {P4 P5 P6 P8 P9 B1 B2 r B : Nat} {g : Rowd} {a b fr N : Int} {l : Pls} : ∀ X ∈ [blkA P8 3 #[.int .i64 a], blkA P9 3 #[.int .i64 b], blkA P6 4 #[.bool false], blkA P5 46 #[.int .i64 fr, .int .i64 N], blkA P4 29 #[.pointer (some ⟨r, 0, none⟩)]] ++ [itA B1 B2 g l fr N], X.Celly B := by
  intro X hX
  simp only [List.cons_append, List.nil_append, List.mem_cons, List.not_mem_nil, or_false] at hX
  rcases hX with rfl | rfl | rfl | rfl | rfl | rfl
  · exact celly_blk _ _ _ _
  · exact celly_blk _ _ _ _
  · exact celly_blk _ _ _ _
  · exact celly_blk _ _ _ _
  · exact celly_blk _ _ _ _
  · exact celly_it _ _ _ _ _ _ _
theorem AI.it {w W : World} {B0 P4 P5 P6 P8 P9 B1 B2 r : Nat} {g : Rowd} {fr N : Int} {l : Pls} {xs : List It} (h : AI w B0 P4 P5 P6 P8 P9 B1 B2 r g fr N l xs W) : IT W B1 B2 g l fr N := by
  obtain ⟨_, h⟩ := h
  obtain ⟨T, hT⟩ := h.last
  exact hT.1
theorem AI.itlt {w W : World} {B0 P4 P5 P6 P8 P9 B1 B2 r : Nat} {g : Rowd} {fr N : Int} {l : Pls} {xs : List It} (h : AI w B0 P4 P5 P6 P8 P9 B1 B2 r g fr N l xs W) : ∀ b, ITb B1 B2 g b → b < W.heap.size := by
  have h := h.it
  rintro b (e | e | e) <;> subst e
  · exact h.b1.lt
  · exact h.b2.lt
  · exact h.row.lt
set_option maxRecDepth 100000 in
set_option maxHeartbeats 6400000 in
theorem lall_any {w : World} {x r slots n0 : Nat} {l : Pls} {f : Ats} {T : Nat → Prop} (fr N : Int) (h : Hid (Sep [idxA x n0 l f slots, refA r slots l] w T)) (hok : Hid (Ok slots l f)) (hl : l.length ≤ 4096) (hfr : 0 ≤ fr) (hfr2 : fr ≤ 9223372036854775807) :
    Calls Try.prog 23 #[.pointer (some ⟨x, 0, none⟩), .pointer (some ⟨r, 0, none⟩), .agg #[.int .i64 fr, .int .i64 N]] w fun e w' => e = .returned (.bool true) ∧ Below w.heap.size w w' := by
  have hnf := not_nil_func
  have HREF : Hid (∀ W : World, Below w.heap.size w W → ∃ T', Sep [refA r slots l] W T') := fun W hb => by
    obtain ⟨T', hT', _⟩ := Hv.use [refA r slots l] _ (show Hv w T ([refA r slots l] ++ [idxA x n0 l f slots]) W from ((Hv.start h.out).still hb).pick [1, 0])
    exact ⟨T', hT'⟩
  obtain ⟨Ti, hTi, _⟩ := Hv.use [idxA x n0 l f slots] _ (Hv.start h.out)
  obtain ⟨gi, bi, hidx, _⟩ := hTi.out
  refine (callsIn_wide (n := 9)).1 ?_
  refine callsIn_of_wp_marks Try.func23 rfl trivial ?_ rfl
  simp only [Try.ntmps23, List.size_toArray, List.length_cons, List.length_nil, Nat.reduceAdd, Nat.reduceSub, Array.replicate_succ, Array.replicate_zero, List.push_toArray, List.append_toArray, List.nil_append, List.cons_append]
  refine wpIn_wide.2 ?_
  obtain ⟨P4, hP4⟩ : ∃ y, y = w.heap.size := ⟨_, rfl⟩
  obtain ⟨P5, hP5⟩ : ∃ y, y = w.heap.size + 1 := ⟨_, rfl⟩
  obtain ⟨P6, hP6⟩ : ∃ y, y = w.heap.size + 1 + 1 := ⟨_, rfl⟩
  obtain ⟨w0, hw0⟩ : ∃ y, y = ((w.alloc (.cells #[.pointer (some ⟨r, 0, none⟩)] 29)).alloc (.cells #[.int .i64 fr, .int .i64 N] 46)).alloc (.cells #[.bool false] 4) := ⟨_, rfl⟩
  have HV0 : Hid (Hv w No [blkA P6 4 #[.bool false], blkA P5 46 #[.int .i64 fr, .int .i64 N], blkA P4 29 #[.pointer (some ⟨r, 0, none⟩)]] w0) := by
    have h := (((Hv.begin w).alloc 29 #[.pointer (some ⟨r, 0, none⟩)]).alloc 46 #[.int .i64 fr, .int .i64 N]).alloc 4 #[.bool false]
    rw [World.size_alloc, World.size_alloc] at h
    rw [hP6, hP5, hP4, hw0]; exact h
  have HI0 := Lib.hid (hidx.below HV0.out.below (Nat.le_refl _))
  have HFIT := Lib.hid hok.out.fit
  clear hTi hidx
  have s0 : w0.cell? ⟨P5, 0, none⟩ = some (.int .i64 fr) := by simpa using (HV0.out.blk (i := 1) rfl).cell 0
  have s1 : w0.cell? ⟨P5, 1, none⟩ = some (.int .i64 N) := by simpa using (HV0.out.blk (i := 1) rfl).cell 1
  rw [hw0, hP5] at s0 s1
  go_wp2_with fail
  rw [← hw0]
  simp only [Nat.add_assoc, Nat.reduceAdd] at hP6 ⊢
  rw [← hP6, ← hP5, ← hP4]
  rw [← hP5, ← hw0] at s0 s1
  clear hP4 hP5 hP6 hw0 s0 s1
  refine (all_any fr N HI0 hl).mono ?_
  rintro e w2 ⟨B1, B2, g, rfl, hit, hB1, hB2, hg1, hbl⟩
  have HV2 : Hid (Hv w No [itA B1 B2 g l fr N, blkA P6 4 #[.bool false], blkA P5 46 #[.int .i64 fr, .int .i64 N], blkA P4 29 #[.pointer (some ⟨r, 0, none⟩)]] w2) := HV0.out.add (hv_it hit hB1 hB2 hg1 hbl)
  clear hit hB1 hB2 hg1 hbl HV0 HI0
  go_wp2_with fail
  obtain ⟨P8, hP8⟩ : ∃ y, y = w2.heap.size := ⟨_, rfl⟩
  obtain ⟨P9, hP9⟩ : ∃ y, y = w2.heap.size + 1 := ⟨_, rfl⟩
  obtain ⟨w5, hw5⟩ : ∃ y, y = (w2.alloc (.cells #[.int .i64 0] 3)).alloc (.cells #[.int .i64 (-1)] 3) := ⟨_, rfl⟩
  rw [← hw5, ← hP9, ← hP8]
  have HV5 : Hid (AI w w5.heap.size P4 P5 P6 P8 P9 B1 B2 r g fr N l [] w5) := by
    have h := (HV2.out.alloc 3 #[.int .i64 0]).alloc 3 #[.int .i64 (-1)]
    rw [World.size_alloc] at h
    refine ⟨Nat.le_refl _, ?_⟩
    rw [hP8, hP9, hw5]
    exact h.pick [1, 0, 3, 4, 5, 2]
  clear hw5 hP8 hP9 HV2
  refine (wpIn_wide (n := 9)).1 ?_
  refine rangeFunc_box rfl (by omega) (gf := 35) (lb := #[.pointer (some ⟨B1, 0, none⟩), .pointer (some ⟨B2, 0, none⟩)]) rfl trivial (enters_of Try.func35 (by kernel_rfl) rfl)
    (all_stops 8 (by omega) hl HFIT.out (HV5.out.it)) KpT.trans (kpT_b (HV5.out.itlt)) (fun _ => rfl)
    (AI w w5.heap.size P4 P5 P6 P8 P9 B1 B2 r g fr N l) (fun c pre _ => c = .ret ∧ ∃ p x, pre = p ++ [x] ∧ ¬ okx l fr N (lastOf p) x) (OwnFrom.and (fun _ _ _ _ hs hg _ => Nat.le_trans hs hg.size) (hv_own (fun xs X hX => AI.celly X hX) HV5.out.2.size)) (fun c => pure_own _) HV5.out
    35 (fun x => #[.int .i64 x.2.1, .bool x.2.2]) [] ?keep ?round ?done ?stop
  case keep => exact fun pre x W hi => ⟨hi.1, kpT_below hi.itlt ((Below.refl _ W).alloc (Nat.le_refl _) _), fun _ hm => by simp at hm⟩
  case round =>
    intro l0 pre0 x0 W0 K hi0 hK
    gi_wp2
    clear hi0
    generalize W0.heap.size = Pb
    intro l1 pre W hl1 hr1 hi hPb hk hh hlen
    obtain ⟨i, p, d⟩ := x0
    obtain ⟨hsz, hv⟩ := hi
    have HSZ := Lib.hid hsz
    obtain ⟨T1, hT, _, hR⟩ := Hv.round (B := w5.heap.size) (A := itA B1 B2 g l fr N) (F := ITb B1 B2 g) (fun h => h.2) _ hv (fun X hX => AI.celly (B1 := B1) (B2 := B2) (g := g) (l := l) X (List.mem_append_left _ hX))
    obtain ⟨n, hn⟩ : ∃ n, n = pre.length := ⟨_, rfl⟩
    obtain ⟨last, hla⟩ : ∃ last, last = lastOf pre := ⟨_, rfl⟩
    rw [← hn] at hT hlen
    rw [← hla] at hT
    have HNL : Hid (pre.length = n) := hn.symm
    have HLA : Hid (lastOf pre = last) := hla.symm
    have HR := Lib.hid hR
    have H1 := Lib.hid (Hv.start hT)
    have HBW := Lib.hid hv.below
    have hkl := hk.lt
    have q4 : ∀ q : ExtB W.heap.size W, q.w.cell? ⟨P4, 0, none⟩ = some (.pointer (some ⟨r, 0, none⟩)) := fun q => by simpa using ((H1.out.still q.below).blk (i := 4) rfl).cell 0
    have q5 : ∀ q : ExtB W.heap.size W, q.w.cell? ⟨P5, 0, none⟩ = some (.int .i64 fr) := fun q => by simpa using ((H1.out.still q.below).blk (i := 3) rfl).cell 0
    have q6 : ∀ q : ExtB W.heap.size W, q.w.cell? ⟨P5, 1, none⟩ = some (.int .i64 N) := fun q => by simpa using ((H1.out.still q.below).blk (i := 3) rfl).cell 1
    have q8 : ∀ q : ExtB W.heap.size W, q.w.cell? ⟨P8, 0, none⟩ = some (.int .i64 (n : Int)) := fun q => by simpa using ((H1.out.still q.below).blk (i := 0) rfl).cell 0
    have q9 : ∀ q : ExtB W.heap.size W, q.w.cell? ⟨P9, 0, none⟩ = some (.int .i64 last) := fun q => by simpa using ((H1.out.still q.below).blk (i := 1) rfl).cell 0
    have q10 : ∀ q : ExtB W.heap.size W, q.w.cell? ⟨Pb, 0, none⟩ = some (.int .i64 p) := fun q => (q.below.cell (p := ⟨Pb, 0, none⟩) hkl).trans (by simpa using hk.cell 0)
    have q11 : ∀ q : ExtB W.heap.size W, q.w.cell? ⟨Pb, 1, none⟩ = some (.bool d) := fun q => (q.below.cell (p := ⟨Pb, 1, none⟩) hkl).trans (by simpa using hk.cell 1)
    have HRT : Hid (∀ q : ExtB W.heap.size W, Calls Try.prog 37 #[.pointer (some ⟨r, 0, none⟩), .int .i64 (i : Int)] q.w fun e w' => e = .returned (.bool (decide (0 ≤ (i : Int)) && decide ((i : Int) < (l.length : Int)))) ∧ q.w = w') := fun q => by
      obtain ⟨T', hT'⟩ := HREF.out q.w (HBW.out.trans (q.below.mono HBW.out.size))
      exact rright_a (i : Int) hT'
    have hfn : ∀ f, Fence.wide.fn f := fun _ => trivial
    clear hn hla hT hR hv hk hh hr1 hsz hkl
    by_cases h1 : last < (i : Int)
    · have b1 : decide ((i : Int) ≤ last) = false := decide_eq_false (by omega)
      by_cases h2 : i < l.length
      · have b2 : (decide (0 ≤ (i : Int)) && decide ((i : Int) < (l.length : Int))) = true := by rw [Bool.and_eq_true, decide_eq_true_eq, decide_eq_true_eq]; omega
        rw [b2] at HRT
        clear b2
        have hcells : ∃ gS cS gD cD, ∀ q : ExtB W.heap.size W, (q.w.cell? ⟨r, 0, none⟩ = some (.slice (some ⟨gS, 0, none⟩) l.length cS) ∧ q.w.cell? ⟨r, 1, none⟩ = some (.slice (some ⟨gD, 0, none⟩) l.length cD)) ∧ q.w.cell? ⟨gS, i, none⟩ = some (.int .i64 (l[i]'h2).1) ∧ q.w.cell? ⟨gD, i, none⟩ = some (.bool (l[i]'h2).2) := by
          obtain ⟨T', hT'⟩ := HREF.out w (Below.refl _ _)
          obtain ⟨vS, vD, hv⟩ := ref_open (Hv.start hT')
          have HRI := Lib.hid (hv_ri hv)
          obtain ⟨gS, cS, gD, cD, rfl, rfl, kS, _, kD, _⟩ := ref_cells HRI i h2
          refine ⟨gS, cS, gD, cD, fun q => ?_⟩
          have hb := HBW.out.trans (q.below.mono HBW.out.size)
          have hr := HRI.out.head.lt
          have hgS : gS < w.heap.size := (HRI.out.rowS.lt gS rfl).2
          have hgD : gD < w.heap.size := (HRI.out.rowD.lt gD rfl).2
          exact ⟨⟨(hb.cell (p := ⟨r, 0, none⟩) hr).trans (by simpa using HRI.out.head.cell 0), (hb.cell (p := ⟨r, 1, none⟩) hr).trans (by simpa using HRI.out.head.cell 1)⟩, (hb.cell (p := ⟨gS, i, none⟩) hgS).trans kS, (hb.cell (p := ⟨gD, i, none⟩) hgD).trans kD⟩
        obtain ⟨gS, cS, gD, cD, hq⟩ := hcells
        obtain ⟨p0, hp0⟩ : ∃ y, y = (l[i]'h2).1 := ⟨_, rfl⟩
        obtain ⟨d0, hd0⟩ : ∃ y, y = (l[i]'h2).2 := ⟨_, rfl⟩
        rw [← hp0, ← hd0] at hq
        have HPL : Hid (pl l i = (p0, d0)) := by show _ = _; rw [pl_at h2, hp0, hd0]
        have q12 : ∀ q : ExtB W.heap.size W, q.w.cell? ⟨r, 0, none⟩ = some (.slice (some ⟨gS, 0, none⟩) l.length cS) := fun q => (hq q).1.1
        have q13 : ∀ q : ExtB W.heap.size W, q.w.cell? ⟨r, 1, none⟩ = some (.slice (some ⟨gD, 0, none⟩) l.length cD) := fun q => (hq q).1.2
        have q14 : ∀ q : ExtB W.heap.size W, q.w.cell? ⟨gS, i, none⟩ = some (.int .i64 p0) := fun q => (hq q).2.1
        have q15 : ∀ q : ExtB W.heap.size W, q.w.cell? ⟨gD, i, none⟩ = some (.bool d0) := fun q => (hq q).2.2
        have i0 : (0 : Int) ≤ (i : Int) := by omega
        have i1 : (i : Int) < (l.length : Int) := by omega
        clear hq hp0 hd0
        by_cases h3 : fr ≤ (i : Int)
        · have b3 : decide ((i : Int) < fr) = false := decide_eq_false (by omega)
          obtain ⟨z, hz⟩ : ∃ z, IntKind.i64.wrap ((i : Int) - fr) = z := ⟨_, rfl⟩
          by_cases h4 : z < N
          · have b4 : decide (N ≤ z) = false := decide_eq_false (by omega)
            by_cases h5 : p = p0
            · subst h5
              have b5 : (p != p) = false := by simp
              by_cases h6 : 0 ≤ p
              · have b6 : decide (p < 0) = false := decide_eq_false (by omega)
                by_cases h7 : d = d0
                · have HOKX : Hid (okx l fr N (lastOf pre) (i, p, d)) := ⟨by rw [HLA.out]; exact h1, h2, h3, by show IntKind.i64.wrap ((i : Int) - fr) < N; rw [hz]; exact h4, by rw [HPL.out], h6, by rw [HPL.out]; exact h7⟩
                  subst h7
                  have b7 : (d != d) = false := by simp
                  clear HOKX
                  gi_wp2_with fail
                  refine wpIn_region_quiet_below (by kernel_rfl) (by kernel_rfl) (by kernel_rfl) ?_
                  repeat (gi_big_quiet_step ((gi_at_call 37; exact callsIn_ext_same _ (CallsIn.inRound _ (callsIn_wide.2 (HRT.out _))))))
                  refine wpQuietIn_nil ?_
                  intro w2 hw2
                  obtain ⟨q, hq⟩ := hw2
                  have hb2 := q.below
                  rw [← hq] at hb2
                  clear hq q
                  have HX := Lib.hid (H1.out.still hb2)
                  clear hb2 q4 q5 q6 q8 q9 q10 q11 q12 q13 q14 q15
                  have k6 := (HX.out.blk (i := 0) rfl).frozen 0
                  have k7 : w2.cell? ⟨P8, 0, none⟩ = some (.int .i64 (n : Int)) := by simpa using (HX.out.blk (i := 0) rfl).cell 0
                  have k8 := (HX.out.blk (i := 1) rfl).frozen 0
                  have k9 : w2.cell? ⟨P9, 0, none⟩ = some (.int .i64 last) := by simpa using (HX.out.blk (i := 1) rfl).cell 0
                  have H9 : Hv W T1 (blkA P9 3 #[.int .i64 last] :: [blkA P8 3 #[.int .i64 (n : Int)], blkA P6 4 #[.bool false], blkA P5 46 #[.int .i64 fr, .int .i64 N], blkA P4 29 #[.pointer (some ⟨r, 0, none⟩)]]) w2 := HX.out.pick [1, 0, 2, 3, 4]
                  have H8 : Hv W T1 (blkA P8 3 #[.int .i64 (n : Int)] :: [blkA P9 3 #[.int .i64 (i : Int)], blkA P6 4 #[.bool false], blkA P5 46 #[.int .i64 fr, .int .i64 N], blkA P4 29 #[.pointer (some ⟨r, 0, none⟩)]]) (w2.setCell ⟨P9, 0, none⟩ (.int .i64 (i : Int))) := (H9.set 0 (.int .i64 (i : Int))).pick [1, 0, 2, 3, 4]
                  have k10 := (H8.blk (i := 0) rfl).frozen 0
                  have k11 : (w2.setCell ⟨P9, 0, none⟩ (.int .i64 (i : Int))).cell? ⟨P8, 0, none⟩ = some (.int .i64 (n : Int)) := by simpa using (H8.blk (i := 0) rfl).cell 0
                  have e7 : IntKind.i64.wrap ((n : Int) + 1) = (n : Int) + 1 := IntWalk.i64_in _ (by omega)
                  obtain ⟨F1, F2, F3⟩ := HR.out _ _ ((H8.set 0 (.int .i64 ((n : Int) + 1))).pick [0, 1, 2, 3, 4])
                  have HF := Lib.hid (And.intro F1 (And.intro F2 F3))
                  clear F1 F2 F3 H9 H8
                  gi_wp2
                  refine ⟨HF.out.1, HF.out.2.1, Nat.le_trans HSZ.out HF.out.1.size, ?_⟩
                  rw [lastOf_snoc, List.length_append, HNL.out]
                  exact HF.out.2.2
                · have HBAD : Hid (¬ okx l fr N (lastOf pre) (i, p, d)) := fun h => absurd (by have := h.2.2.2.2.2.2; rw [HPL.out] at this; exact this) h7
                  have e7 : d0 = !d := by cases d <;> cases d0 <;> simp_all
                  subst e7
                  clear h7 HPL
                  cases d
                  all_goals
                    gi_wp2_with fail
                    refine wpIn_region_quiet_below (by kernel_rfl) (by kernel_rfl) (by kernel_rfl) ?_
                    repeat (gi_big_quiet_step ((gi_at_call 37; exact callsIn_ext_same _ (CallsIn.inRound _ (callsIn_wide.2 (HRT.out _))))))
                    refine wpQuietIn_nil ?_
                    intro w2 hw2
                    obtain ⟨q, hq⟩ := hw2
                    have hb2 := q.below
                    rw [← hq] at hb2
                    clear hq q
                    have HX := Lib.hid (H1.out.still hb2)
                    clear hb2 q4 q5 q6 q8 q9 q10 q11 q12 q13 q14 q15
                    have k6 := (HX.out.blk (i := 2) rfl).frozen 0
                    have k7 : w2.cell? ⟨P6, 0, none⟩ = some (.bool false) := by simpa using (HX.out.blk (i := 2) rfl).cell 0
                    have HP6 : Hid (Hv W T1 (blkA P6 4 #[.bool false] :: [blkA P8 3 #[.int .i64 (n : Int)], blkA P9 3 #[.int .i64 last], blkA P5 46 #[.int .i64 fr, .int .i64 N], blkA P4 29 #[.pointer (some ⟨r, 0, none⟩)]]) w2) := HX.out.pick [2, 0, 1, 3, 4]
                    have HF := Lib.hid (HR.out _ _ (HP6.out.set 0 (.bool false))).1
                    clear HP6
                    gi_wp2
                    exact ⟨HF.out, rfl, pre, _, rfl, HBAD.out⟩
              · have b6 : decide (p < 0) = true := decide_eq_true (by omega)
                have HBAD : Hid (¬ okx l fr N (lastOf pre) (i, p, d)) := fun h => absurd h.2.2.2.2.2.1 h6
                gi_wp2_with fail
                refine wpIn_region_quiet_below (by kernel_rfl) (by kernel_rfl) (by kernel_rfl) ?_
                repeat (gi_big_quiet_step ((gi_at_call 37; exact callsIn_ext_same _ (CallsIn.inRound _ (callsIn_wide.2 (HRT.out _))))))
                refine wpQuietIn_nil ?_
                intro w2 hw2
                obtain ⟨q, hq⟩ := hw2
                have hb2 := q.below
                rw [← hq] at hb2
                clear hq q
                have HX := Lib.hid (H1.out.still hb2)
                clear hb2 q4 q5 q6 q8 q9 q10 q11 q12 q13 q14 q15
                have k6 := (HX.out.blk (i := 2) rfl).frozen 0
                have k7 : w2.cell? ⟨P6, 0, none⟩ = some (.bool false) := by simpa using (HX.out.blk (i := 2) rfl).cell 0
                have HP6 : Hid (Hv W T1 (blkA P6 4 #[.bool false] :: [blkA P8 3 #[.int .i64 (n : Int)], blkA P9 3 #[.int .i64 last], blkA P5 46 #[.int .i64 fr, .int .i64 N], blkA P4 29 #[.pointer (some ⟨r, 0, none⟩)]]) w2) := HX.out.pick [2, 0, 1, 3, 4]
                have HF := Lib.hid (HR.out _ _ (HP6.out.set 0 (.bool false))).1
                clear HP6
                gi_wp2
                exact ⟨HF.out, rfl, pre, _, rfl, HBAD.out⟩
            · have b5 : (p != p0) = true := by simpa using h5
              have HBAD : Hid (¬ okx l fr N (lastOf pre) (i, p, d)) := fun h => absurd (by have := h.2.2.2.2.1; rw [HPL.out] at this; exact this) h5
              gi_wp2_with fail
              refine wpIn_region_quiet_below (by kernel_rfl) (by kernel_rfl) (by kernel_rfl) ?_
              repeat (gi_big_quiet_step ((gi_at_call 37; exact callsIn_ext_same _ (CallsIn.inRound _ (callsIn_wide.2 (HRT.out _))))))
              refine wpQuietIn_nil ?_
              intro w2 hw2
              obtain ⟨q, hq⟩ := hw2
              have hb2 := q.below
              rw [← hq] at hb2
              clear hq q
              have HX := Lib.hid (H1.out.still hb2)
              clear hb2 q4 q5 q6 q8 q9 q10 q11 q12 q13 q14 q15
              have k6 := (HX.out.blk (i := 2) rfl).frozen 0
              have k7 : w2.cell? ⟨P6, 0, none⟩ = some (.bool false) := by simpa using (HX.out.blk (i := 2) rfl).cell 0
              have HP6 : Hid (Hv W T1 (blkA P6 4 #[.bool false] :: [blkA P8 3 #[.int .i64 (n : Int)], blkA P9 3 #[.int .i64 last], blkA P5 46 #[.int .i64 fr, .int .i64 N], blkA P4 29 #[.pointer (some ⟨r, 0, none⟩)]]) w2) := HX.out.pick [2, 0, 1, 3, 4]
              have HF := Lib.hid (HR.out _ _ (HP6.out.set 0 (.bool false))).1
              clear HP6
              gi_wp2
              exact ⟨HF.out, rfl, pre, _, rfl, HBAD.out⟩
          · have b4 : decide (N ≤ z) = true := decide_eq_true (by omega)
            have HBAD : Hid (¬ okx l fr N (lastOf pre) (i, p, d)) := fun h => absurd (by have := h.2.2.2.1; rw [hz] at this; exact this) h4
            gi_wp2_with fail
            refine wpIn_region_quiet_below (by kernel_rfl) (by kernel_rfl) (by kernel_rfl) ?_
            repeat (gi_big_quiet_step ((gi_at_call 37; exact callsIn_ext_same _ (CallsIn.inRound _ (callsIn_wide.2 (HRT.out _))))))
            refine wpQuietIn_nil ?_
            intro w2 hw2
            obtain ⟨q, hq⟩ := hw2
            have hb2 := q.below
            rw [← hq] at hb2
            clear hq q
            have HX := Lib.hid (H1.out.still hb2)
            clear hb2 q4 q5 q6 q8 q9 q10 q11 q12 q13 q14 q15
            have k6 := (HX.out.blk (i := 2) rfl).frozen 0
            have k7 : w2.cell? ⟨P6, 0, none⟩ = some (.bool false) := by simpa using (HX.out.blk (i := 2) rfl).cell 0
            have HP6 : Hid (Hv W T1 (blkA P6 4 #[.bool false] :: [blkA P8 3 #[.int .i64 (n : Int)], blkA P9 3 #[.int .i64 last], blkA P5 46 #[.int .i64 fr, .int .i64 N], blkA P4 29 #[.pointer (some ⟨r, 0, none⟩)]]) w2) := HX.out.pick [2, 0, 1, 3, 4]
            have HF := Lib.hid (HR.out _ _ (HP6.out.set 0 (.bool false))).1
            clear HP6
            gi_wp2
            exact ⟨HF.out, rfl, pre, _, rfl, HBAD.out⟩
        · have b3 : decide ((i : Int) < fr) = true := decide_eq_true (by omega)
          have HBAD : Hid (¬ okx l fr N (lastOf pre) (i, p, d)) := fun h => absurd h.2.2.1 h3
          gi_wp2_with fail
          refine wpIn_region_quiet_below (by kernel_rfl) (by kernel_rfl) (by kernel_rfl) ?_
          repeat (gi_big_quiet_step ((gi_at_call 37; exact callsIn_ext_same _ (CallsIn.inRound _ (callsIn_wide.2 (HRT.out _))))))
          refine wpQuietIn_nil ?_
          intro w2 hw2
          obtain ⟨q, hq⟩ := hw2
          have hb2 := q.below
          rw [← hq] at hb2
          clear hq q
          have HX := Lib.hid (H1.out.still hb2)
          clear hb2 q4 q5 q6 q8 q9 q10 q11 q12 q13 q14 q15
          have k6 := (HX.out.blk (i := 2) rfl).frozen 0
          have k7 : w2.cell? ⟨P6, 0, none⟩ = some (.bool false) := by simpa using (HX.out.blk (i := 2) rfl).cell 0
          have HP6 : Hid (Hv W T1 (blkA P6 4 #[.bool false] :: [blkA P8 3 #[.int .i64 (n : Int)], blkA P9 3 #[.int .i64 last], blkA P5 46 #[.int .i64 fr, .int .i64 N], blkA P4 29 #[.pointer (some ⟨r, 0, none⟩)]]) w2) := HX.out.pick [2, 0, 1, 3, 4]
          have HF := Lib.hid (HR.out _ _ (HP6.out.set 0 (.bool false))).1
          clear HP6
          gi_wp2
          exact ⟨HF.out, rfl, pre, _, rfl, HBAD.out⟩
      · have b2 : (decide (0 ≤ (i : Int)) && decide ((i : Int) < (l.length : Int))) = false := by rw [Bool.and_eq_false_iff, decide_eq_false_iff_not, decide_eq_false_iff_not]; omega
        rw [b2] at HRT
        clear b2
        have HBAD : Hid (¬ okx l fr N (lastOf pre) (i, p, d)) := fun h => absurd h.2.1 h2
        gi_wp2_with fail
        refine wpIn_region_quiet_below (by kernel_rfl) (by kernel_rfl) (by kernel_rfl) ?_
        repeat (gi_big_quiet_step ((gi_at_call 37; exact callsIn_ext_same _ (CallsIn.inRound _ (callsIn_wide.2 (HRT.out _))))))
        refine wpQuietIn_nil ?_
        intro w2 hw2
        obtain ⟨q, hq⟩ := hw2
        have hb2 := q.below
        rw [← hq] at hb2
        clear hq q
        have HX := Lib.hid (H1.out.still hb2)
        clear hb2 q4 q5 q6 q8 q9 q10 q11
        have k6 := (HX.out.blk (i := 2) rfl).frozen 0
        have k7 : w2.cell? ⟨P6, 0, none⟩ = some (.bool false) := by simpa using (HX.out.blk (i := 2) rfl).cell 0
        have HP6 : Hid (Hv W T1 (blkA P6 4 #[.bool false] :: [blkA P8 3 #[.int .i64 (n : Int)], blkA P9 3 #[.int .i64 last], blkA P5 46 #[.int .i64 fr, .int .i64 N], blkA P4 29 #[.pointer (some ⟨r, 0, none⟩)]]) w2) := HX.out.pick [2, 0, 1, 3, 4]
        have HF := Lib.hid (HR.out _ _ (HP6.out.set 0 (.bool false))).1
        clear HP6
        gi_wp2
        exact ⟨HF.out, rfl, pre, _, rfl, HBAD.out⟩
    · have b1 : decide ((i : Int) ≤ last) = true := decide_eq_true (by omega)
      have HBAD : Hid (¬ okx l fr N (lastOf pre) (i, p, d)) := fun h => absurd (by have := h.1; rw [HLA.out] at this; exact this) h1
      gi_wp2_with fail
      refine wpIn_region_quiet_below (by kernel_rfl) (by kernel_rfl) (by kernel_rfl) ?_
      repeat (gi_big_quiet_step ((gi_at_call 37; exact callsIn_ext_same _ (CallsIn.inRound _ (callsIn_wide.2 (HRT.out _))))))
      refine wpQuietIn_nil ?_
      intro w2 hw2
      obtain ⟨q, hq⟩ := hw2
      have hb2 := q.below
      rw [← hq] at hb2
      clear hq q
      have HX := Lib.hid (H1.out.still hb2)
      clear hb2 q4 q5 q6 q8 q9 q10 q11
      have k6 := (HX.out.blk (i := 2) rfl).frozen 0
      have k7 : w2.cell? ⟨P6, 0, none⟩ = some (.bool false) := by simpa using (HX.out.blk (i := 2) rfl).cell 0
      have HP6 : Hid (Hv W T1 (blkA P6 4 #[.bool false] :: [blkA P8 3 #[.int .i64 (n : Int)], blkA P9 3 #[.int .i64 last], blkA P5 46 #[.int .i64 fr, .int .i64 N], blkA P4 29 #[.pointer (some ⟨r, 0, none⟩)]]) w2) := HX.out.pick [2, 0, 1, 3, 4]
      have HF := Lib.hid (HR.out _ _ (HP6.out.set 0 (.bool false))).1
      clear HP6
      gi_wp2
      exact ⟨HF.out, rfl, pre, _, rfl, HBAD.out⟩
  case stop =>
    rintro D1 c pre W hD1 ⟨k, hk, rfl⟩ ⟨rfl, p, x, e, hno⟩ hK1
    exact absurd (items_ok HFIT.out hl k hk e) hno
  case done =>
    rintro D1 ys1 W1 hD1 rfl hi1 hK1
    obtain ⟨m, hm⟩ : ∃ m : Int, m = ((itemsTo l fr N l.length).length : Int) := ⟨_, rfl⟩
    have HM : Hid (((itemsTo l fr N l.length).length : Int) = m) := hm.symm
    have HV6 : Hid (Hv w No [blkA P6 4 #[.bool false], defA D1, blkA P8 3 #[.int .i64 m], blkA P5 46 #[.int .i64 fr, .int .i64 N], blkA P4 29 #[.pointer (some ⟨r, 0, none⟩)]] W1) := by
      have h' := hi1.2.addDef (B := w5.heap.size) (fun X hX => AI.celly X hX) hD1 HV5.out.2.size hK1
      rw [HM.out] at h'
      exact h'.pick [3, 0, 1, 4, 5]
    clear hi1 hK1 HV5 hD1 hm
    obtain ⟨T', hT'⟩ := HREF.out W1 HV6.out.below
    obtain ⟨vS, vD, hv⟩ := ref_open (Hv.start hT')
    have HRI := Lib.hid (hv_ri hv)
    obtain ⟨AS, cS, rfl⟩ := HRI.out.formS
    have c0 : W1.cell? ⟨r, 0, none⟩ = some (.slice AS l.length cS) := by simpa using HRI.out.head.cell 0
    have c4 : W1.cell? ⟨P4, 0, none⟩ = some (.pointer (some ⟨r, 0, none⟩)) := by simpa using (HV6.out.blk (i := 4) rfl).cell 0
    have c5 : W1.cell? ⟨P5, 0, none⟩ = some (.int .i64 fr) := by simpa using (HV6.out.blk (i := 3) rfl).cell 0
    have c6 : W1.cell? ⟨P5, 1, none⟩ = some (.int .i64 N) := by simpa using (HV6.out.blk (i := 3) rfl).cell 1
    have c8 : W1.cell? ⟨P8, 0, none⟩ = some (.int .i64 m) := by simpa using (HV6.out.blk (i := 2) rfl).cell 0
    have c9 : W1.cell? ⟨P6, 0, none⟩ = some (.bool false) := by simpa using (HV6.out.blk (i := 0) rfl).cell 0
    have c10 := (HV6.out.blk (i := 0) rfl).frozen 0
    clear hv hT'
    go_wp2
    go_loopw [12, 13] (fun c v wr => ∃ k : Nat, k ≤ l.length ∧ v = .int .i64 k ∧ c = .int .i64 ((itemsTo l fr N k).length : Int) ∧ W1 = wr) (fun _ v _ => l.length - (intOf v).toNat)
    case atStart => exact ⟨0, by omega, rfl, by simp [itemsTo], rfl⟩
    case round =>
      obtain ⟨k, hk, rfl, rfl, rfl⟩ := hrel
      obtain ⟨c, hc⟩ : ∃ c : Int, c = ((itemsTo l fr N k).length : Int) := ⟨_, rfl⟩
      have hcr : 0 ≤ c ∧ c ≤ 4096 := by have := itemsTo_length l fr N k; omega
      have HC := Lib.hid hc
      rw [← hc]
      clear hc
      by_cases hkl : k < l.length
      · obtain ⟨gS, c2, gD, c3, e1, _, kS, _⟩ := ref_cells HRI k hkl
        injection e1 with e1 _ _
        subst e1
        have hw := want_succ (N := N) HFIT.out hfr k hkl
        obtain ⟨p0, hp0⟩ : ∃ y, y = l[k].1 := ⟨_, rfl⟩
        obtain ⟨v1, hv1⟩ : ∃ v1, decide (0 ≤ p0) = v1 := ⟨_, rfl⟩
        obtain ⟨v2, hv2⟩ : ∃ v2, decide (fr ≤ (k : Int)) = v2 := ⟨_, rfl⟩
        obtain ⟨v3, hv3⟩ : ∃ v3, decide ((k : Int) - fr < N) = v3 := ⟨_, rfl⟩
        rw [← hp0] at kS hw
        rw [← HC.out, hv1, hv2, hv3] at hw
        have HW := Lib.hid hw
        have e7 : IntKind.i64.wrap ((k : Int) - fr) = (k : Int) - fr := IntWalk.i64_in _ (by omega)
        clear hw hp0 HC
        cases v1
        · have HW2 : Hid (((itemsTo l fr N (k + 1)).length : Int) = c) := by show _ = _; rw [HW.out]; simp
          clear hv2 hv3
          go_wp2
          go_roundw
          case rel => exact ⟨k + 1, by omega, by go_num, by rw [HW2.out], by trivial⟩
          case measure => simp [intOf]; omega
        · cases v2
          · have HW2 : Hid (((itemsTo l fr N (k + 1)).length : Int) = c) := by show _ = _; rw [HW.out]; simp
            clear hv3
            go_wp2
            go_roundw
            case rel => exact ⟨k + 1, by omega, by go_num, by rw [HW2.out], by trivial⟩
            case measure => simp [intOf]; omega
          · cases v3
            · have HW2 : Hid (((itemsTo l fr N (k + 1)).length : Int) = c) := by show _ = _; rw [HW.out]; simp
              go_wp2
              go_roundw
              case rel => exact ⟨k + 1, by omega, by go_num, by rw [HW2.out], by trivial⟩
              case measure => simp [intOf]; omega
            · have HW2 : Hid (((itemsTo l fr N (k + 1)).length : Int) = c + 1) := by show _ = _; rw [HW.out]; simp
              go_wp2
              go_roundw
              case rel => exact ⟨k + 1, by omega, by go_num, by rw [HW2.out], by trivial⟩
              case measure => simp [intOf]; omega
      · obtain rfl : k = l.length := by omega
        have e8 : c = m := by rw [HC.out, HM.out]
        subst e8
        clear HC
        have HV7 := Lib.hid (HV6.out.set 0 (.bool true))
        have b1 : (c == c) = true := by simp
        go_wp2
        refine ⟨by simp, .inl ⟨_, _, rfl, run_takeDeferred (HV7.out.def_ (i := 1) rfl), ?_⟩⟩
        have HV8 : Hv w No [blkA P6 4 #[.bool true]] _ := ((HV7.out.pick [1, 0]).take (.deferred none)).drop [blkA P6 4 #[.bool true]] []
        have c7 := (HV8.blk (i := 0) rfl).cell 0
        simp only [List.getElem?_toArray, List.getElem?_cons_zero] at c7
        refine ⟨.bool true, ?_, rfl, HV8.below⟩
        rw [results_cell_one rfl]
        go_simp
end Go.Proofs.Ytofeodhekpnpaaa

/- The walk of LedgerGrows. -/
import Derived.Test.YtieojomabmippaaPlayed
import Derived.Test.YtieojomabmippaaSame
namespace Go.Proofs.Ytieojomabmippaa
open Go.RowKit Go.LawEnd

set_option maxRecDepth 100000 in
set_option maxHeartbeats 6400000 in
theorem grows_bad (A : Option Addr) (c : Nat) (a b p q : Int) (l : List Oq) (w : World) (hbad : Hid (rightB a b = false ∨ 60 < l.length)) :
    Calls Try.prog 3 #[two a b, .slice A l.length c, two p q] w (Yes w) := by
  obtain ⟨Q, hQ⟩ : ∃ Q, Q = l.length := ⟨_, rfl⟩
  rw [← hQ] at hbad ⊢
  clear hQ
  have HV : Hid (Hv w No [] ((w.alloc (.cells #[.int .i64 a, .int .i64 b] 22)).alloc (.cells #[.int .i64 p, .int .i64 q] 22))) := ((Hv.begin w).alloc_ _).alloc_ _
  cases hr : rightB a b
  · have HR := Lib.hid hr
    clear hbad hr
    go_enter Try.func3, Try.ntmps3
    go_wp2_with fail
    refine (right_any a b _).mono ?_
    rintro e w1 ⟨rfl, hb1⟩
    rw [HR.out]
    have HV1 := Lib.hid (HV.out.still hb1)
    clear hb1
    go_wp2_with fail
    refine (awake_any _).mono ?_
    rintro e w2 ⟨rfl, hb2⟩
    have HB := Lib.hid (HV1.out.still hb2).below
    clear hb2
    go_wp2
    go_ret
    exact ⟨rfl, HB.out⟩
  · have HR := Lib.hid hr
    have h60 : decide (60 < (Q : Int)) = true := decide_eq_true (by have := hbad.out.resolve_left (by rw [hr]; simp); omega)
    have h60' : 60 < Q := by have := hbad.out.resolve_left (by rw [hr]; simp); omega
    clear hbad hr
    go_enter Try.func3, Try.ntmps3
    go_wp2_with fail
    refine (right_any a b _).mono ?_
    rintro e w1 ⟨rfl, hb1⟩
    rw [HR.out]
    have HV1 := Lib.hid (HV.out.still hb1)
    clear hb1
    go_wp2_with fail
    refine (awake_any _).mono ?_
    rintro e w2 ⟨rfl, hb2⟩
    have HB := Lib.hid (HV1.out.still hb2).below
    clear hb2
    go_wp2
    go_ret
    exact ⟨rfl, HB.out⟩
def ownB (i : Nat) (p : Int) (k : Nat) (q : Int) : Bool := decide ((i : Int) = p) && (decide ((k : Int) = q) || decide (q = -1))
theorem hit_one (x : Int) (k : Nat) : hitB x (k : Int) 1 = true ↔ x = -1 ∨ x = k := by
  unfold hitB inB
  simp only [Bool.or_eq_true, beq_iff_eq, Bool.and_eq_true, decide_eq_true_eq]
  omega
theorem may_one (l : List Int) (k : Nat) : mayL l (k : Int) 1 = true ↔ -1 ∈ l ∨ (k : Int) ∈ l := by
  unfold mayL
  rw [List.any_eq_true]
  constructor
  · rintro ⟨x, hx, h⟩
    rcases (hit_one x k).1 h with rfl | rfl
    · exact .inl hx
    · exact .inr hx
  · rintro (h | h)
    · exact ⟨_, h, (hit_one _ k).2 (.inl rfl)⟩
    · exact ⟨_, h, (hit_one _ k).2 (.inr rfl)⟩
theorem may_nextL (l : List Int) (k : Nat) (q : Int) : mayL (nextL l q) (k : Int) 1 = true ↔ mayL l (k : Int) 1 = true ∨ (k : Int) = q ∨ q = -1 := by
  rw [may_one, may_one]
  unfold nextL
  by_cases hq : q = -1
  · rw [if_pos hq]; simp [hq]
  · rw [if_neg hq]
    by_cases hm : (-1 : Int) ∈ l
    · rw [if_pos hm]; simp [hm]
    · rw [if_neg hm, mem_ins, mem_ins]
      simp only [hm, false_or, or_false, hq]
      constructor
      · rintro (h | h | h)
        · exact absurd h.symm hq
        · exact .inr h
        · exact .inl h
      · rintro (h | h)
        · exact .inr (.inr h)
        · exact .inr (.inl h)
theorem may_next {n k : Nat} {B : Int} {L : Lg} {p q : Int} (hok : okO n B p q = true) {i : Nat} {l : List Int} (hl : L.sets[i]? = some l) :
    ∃ l', (putT n B L p q).sets[i]? = some l' ∧ mayL l' (k : Int) 1 = (mayL l (k : Int) 1 || ownB i p k q) := by
  unfold putT
  rw [if_pos hok]
  have h0 := (okO_iff.1 hok).1
  obtain ⟨j, rfl⟩ := Int.eq_ofNat_of_zero_le h0.1
  rw [Int.toNat_natCast]
  have hil := (List.getElem?_eq_some_iff.1 hl).1
  by_cases hij : j = i
  · subst hij
    refine ⟨nextL l q, ?_, ?_⟩
    · rw [hl]
      show (L.sets.set _ _)[_]? = _
      rw [List.getElem?_set_self hil]; rfl
    · rw [Bool.eq_iff_iff, may_nextL]
      unfold ownB
      simp
  · refine ⟨l, ?_, ?_⟩
    · show (L.sets.set _ _)[_]? = _
      rw [List.getElem?_set_ne hij]; exact hl
    · unfold ownB
      have : ¬ (i : Int) = j := by omega
      simp [this]
set_option maxRecDepth 100000 in
set_option maxHeartbeats 6400000 in
theorem grows_good (A : Option Addr) (c n b : Nat) (p q : Int) (l : List Oq) (w : World) (hg : Hid (1 ≤ n ∧ n ≤ 12 ∧ 1 ≤ b ∧ b ≤ 20 ∧ l.length ≤ 60)) (hA : Hid (OqArg w A l)) :
    Calls Try.prog 3 #[two (n : Int) (b : Int), .slice A l.length c, two p q] w (Yes w) := by
  obtain ⟨Q, hQ⟩ : ∃ Q, Q = l.length := ⟨_, rfl⟩
  have HQ := Lib.hid hQ
  rw [← hQ] at hg ⊢
  clear hQ
  have HR : Hid (rightB n b = true) := by show _ = _; unfold rightB; exact decide_eq_true (by have := hg.out; omega)
  have h60 : decide (60 < (Q : Int)) = false := decide_eq_false (by have := hg.out; omega)
  have h60' : ¬ 60 < Q := by have := hg.out; omega
  have hn12 : n ≤ 12 := hg.out.2.1
  have hb20 : b ≤ 20 := hg.out.2.2.2.1
  obtain ⟨P3, hP3⟩ : ∃ y, y = w.heap.size := ⟨_, rfl⟩
  obtain ⟨P5, hP5⟩ : ∃ y, y = w.heap.size + 1 := ⟨_, rfl⟩
  obtain ⟨V, hV⟩ : ∃ y, y = ((w.alloc (.cells #[.int .i64 (n : Int), .int .i64 (b : Int)] 22)).alloc (.cells #[.int .i64 p, .int .i64 q] 22)) := ⟨_, rfl⟩
  have hv := (((Hv.begin w).alloc 22 #[.int .i64 (n : Int), .int .i64 (b : Int)]).alloc 22 #[.int .i64 p, .int .i64 q])
  rw [World.size_alloc, ← hV, ← hP5, ← hP3] at hv
  have HV : Hid (Hv w No [blkA P3 22 #[.int .i64 (n : Int), .int .i64 (b : Int)], blkA P5 22 #[.int .i64 p, .int .i64 q]] V) := hv.pick [1, 0]
  have a0 := (HV.out.blk (i := 0) rfl).cell 0
  have a1 := (HV.out.blk (i := 0) rfl).cell 1
  simp only [List.getElem?_toArray, List.getElem?_cons_zero, List.getElem?_cons_succ] at a0 a1
  clear hv
  go_enter Try.func3, Try.ntmps3
  go_wp2_with fail
  rw [← hV, ← hP5, ← hP3]
  clear hV hP3 hP5
  refine (right_any n b _).mono ?_
  rintro e w1 ⟨rfl, hb1⟩
  rw [HR.out]
  have HV1 := Lib.hid (HV.out.still hb1)
  have a0 := (HV1.out.blk (i := 0) rfl).cell 0
  have a1 := (HV1.out.blk (i := 0) rfl).cell 1
  simp only [List.getElem?_toArray, List.getElem?_cons_zero, List.getElem?_cons_succ] at a0 a1
  clear hb1 HV
  go_wp2_with fail
  have hp := played_good A c n b l w1 (Lib.hid (by have := hg.out; have := HQ.out; omega)) (Lib.hid (hA.out.below HV1.out.below))
  rw [← HQ.out] at hp
  refine hp.mono ?_
  clear hp
  rintro e w2 ⟨x, r, rfl, L, R, hinv, hv2⟩
  have HI := Lib.hid hinv
  have HV2 : Hid (Hv w No [lgA x 60 L, blkA P3 22 #[.int .i64 (n : Int), .int .i64 (b : Int)], blkA P5 22 #[.int .i64 p, .int .i64 q]] w2) := (HV1.out.add hv2).pick [0, 2, 3]
  clear hinv hv2 a0 a1 HV1
  go_wp2_with fail
  obtain ⟨T, hT, hJ⟩ := Hv.use [lgA x 60 L] _ HV2.out
  refine (copy_any (Lib.hid (by rw [HI.out.len]; omega)) (Lib.hid hT)).mono ?_
  rintro e w3 ⟨o, rfl, h3⟩
  have HV3 : Hid (Hv w No [lgA x 60 L, lgA o 60 L, blkA P3 22 #[.int .i64 (n : Int), .int .i64 (b : Int)], blkA P5 22 #[.int .i64 p, .int .i64 q]] w3) := (HV2.out.add h3).pick [1, 0, 2, 3]
  clear h3 hT hJ HV2
  have a0 := (HV3.out.blk (i := 3) rfl).cell 0
  have a1 := (HV3.out.blk (i := 3) rfl).cell 1
  simp only [List.getElem?_toArray, List.getElem?_cons_zero, List.getElem?_cons_succ] at a0 a1
  go_wp2_with fail
  obtain ⟨T, hT, hJ⟩ := Hv.use [lgA x 60 L] _ HV3.out
  refine (put_lg p q HI (Lib.hid ⟨by omega, by omega, by omega⟩) (Lib.hid hT)).mono ?_
  rintro e w4 ⟨rfl, h4⟩
  have HV4 : Hid (Hv w No [lgA x 61 (putT n b L p q), lgA o 60 L, blkA P3 22 #[.int .i64 (n : Int), .int .i64 (b : Int)], blkA P5 22 #[.int .i64 p, .int .i64 q]] w4) := hJ _ _ h4
  clear h4 hT hJ HV3 a0 a1
  cases hok : okO n b p q
  · have HS : Hid (putT n b L p q = L) := by show _ = _; unfold putT; rw [if_neg (by rw [hok]; simp)]
    rw [HS.out] at HV4
    clear hok
    unfold codeB
    go_wp2_with fail
    obtain ⟨T, hT, hJ⟩ := Hv.use [lgA x 61 L, lgA o 60 L] _ HV4.out
    refine (same_any x o 61 60 L L _ (Lib.hid hT) (Lib.hid (by rw [HI.out.len]; omega)) (Lib.hid rfl)).mono ?_
    rintro e w5 ⟨rfl, h5⟩
    rw [decide_eq_true rfl]
    have HV5 := Lib.hid (HV4.out.still h5)
    clear hT hJ h5
    go_wp2_with fail
    refine (awake_any _).mono ?_
    rintro e w6 ⟨rfl, hb6⟩
    have HB := Lib.hid (HV5.out.still hb6).below
    clear hb6
    go_wp2
    go_ret
    exact ⟨rfl, HB.out⟩
  · have HOK := Lib.hid hok
    clear hok
    unfold codeB
    go_wp2_with fail
    have H4 := HV4
    clear HV4
    go_loopw [12] (fun j wr => ∃ i : Nat, i ≤ n ∧ j = .int .i64 i ∧ Hid (Hv w No [lgA x 61 (putT n b L p q), lgA o 60 L, blkA P3 22 #[.int .i64 (n : Int), .int .i64 (b : Int)], blkA P5 22 #[.int .i64 p, .int .i64 q]] wr)) (fun j _ => n - (vInt j).toNat)
    case atStart => exact ⟨0, by omega, rfl, H4⟩
    case round =>
      clear H4
      obtain ⟨i, hi, rfl, HI1⟩ := hrel
      have a0 := (HI1.out.blk (i := 2) rfl).cell 0
      have a1 := (HI1.out.blk (i := 2) rfl).cell 1
      have b0 := (HI1.out.blk (i := 3) rfl).cell 0
      have b1 := (HI1.out.blk (i := 3) rfl).cell 1
      simp only [List.getElem?_toArray, List.getElem?_cons_zero, List.getElem?_cons_succ] at a0 a1 b0 b1
      by_cases hin : i < n
      · obtain ⟨l1, hl1⟩ := HI.out.at_ hin
        have HL1 := Lib.hid hl1
        clear hl1 b0 b1
        go_wp2_with fail
        have HI2 := HI1
        clear a0 a1 HI1
        go_loopw [13] (fun j wr => ∃ k : Nat, k ≤ b ∧ j = .int .i64 k ∧ Hid (Hv w No [lgA x 61 (putT n b L p q), lgA o 60 L, blkA P3 22 #[.int .i64 (n : Int), .int .i64 (b : Int)], blkA P5 22 #[.int .i64 p, .int .i64 q]] wr)) (fun j _ => b - (vInt j).toNat)
        case atStart => exact ⟨0, by omega, rfl, HI2⟩
        case round =>
          clear HI2
          obtain ⟨k, hk, rfl, HI1⟩ := hrel
          have a0 := (HI1.out.blk (i := 2) rfl).cell 0
          have a1 := (HI1.out.blk (i := 2) rfl).cell 1
          simp only [List.getElem?_toArray, List.getElem?_cons_zero, List.getElem?_cons_succ] at a0 a1
          by_cases hkb : k < b
          · obtain ⟨l2, hl2, hm2⟩ := may_next (k := k) HOK.out HL1.out
            have HL2 := Lib.hid hl2
            have HM2 := Lib.hid hm2
            have hV0 := HI1.out.alloc 35 #[.int .i64 (k : Int), .int .i64 1]
            have HX : Hid (Hv w No [lgA x 61 (putT n b L p q), lgA o 60 L, blkA P3 22 #[.int .i64 (n : Int), .int .i64 (b : Int)], blkA P5 22 #[.int .i64 p, .int .i64 q], blkA wr.heap.size 35 #[.int .i64 (k : Int), .int .i64 1]] (wr.alloc (.cells #[.int .i64 (k : Int), .int .i64 1] 35))) := hV0.pick [1, 2, 3, 4, 0]
            have b0 := (HX.out.blk (i := 3) rfl).cell 0
            have b1 := (HX.out.blk (i := 3) rfl).cell 1
            have s0 := (HX.out.blk (i := 4) rfl).cell 0
            have s1 := (HX.out.blk (i := 4) rfl).cell 1
            simp only [List.getElem?_toArray, List.getElem?_cons_zero, List.getElem?_cons_succ] at b0 b1 s0 s1
            have S0 := Lib.hid s0
            have S1 := Lib.hid s1
            obtain ⟨P, hP⟩ : ∃ y, y = wr.heap.size := ⟨_, rfl⟩
            obtain ⟨V, hV⟩ : ∃ y, y = wr.alloc (.cells #[.int .i64 (k : Int), .int .i64 1] 35) := ⟨_, rfl⟩
            rw [← hV, ← hP] at HX S0 S1
            have lP := block_lt S0.out
            have k0 : ∀ q : ExtB V.heap.size V, q.w.cell? ⟨P, 0, none⟩ = some (.int .i64 (k : Int)) := fun q => (q.below.cell (p := ⟨P, 0, none⟩) lP).trans S0.out
            have k1 : ∀ q : ExtB V.heap.size V, q.w.cell? ⟨P, 1, none⟩ = some (.int .i64 1) := fun q => (q.below.cell (p := ⟨P, 1, none⟩) lP).trans S1.out
            have HM1 : Hid (∀ q : ExtB V.heap.size V, Calls Try.prog 13 #[.pointer (some ⟨x, 0, none⟩), .int .i64 (i : Int), spanV (k : Int) 1] q.w fun e w' => e = .returned (.bool (mayL l2 (k : Int) 1)) ∧ Below q.w.heap.size q.w w') := fun q => by
              obtain ⟨T, hT, _⟩ := Hv.use [lgA x 61 (putT n b L p _)] _ (HX.out.still q.below)
              exact may_yes i l2 (k : Int) 1 HL2 (by omega) (by omega) (by omega) (Lib.hid hT)
            have HM0 : Hid (∀ q : ExtB V.heap.size V, Calls Try.prog 13 #[.pointer (some ⟨o, 0, none⟩), .int .i64 (i : Int), spanV (k : Int) 1] q.w fun e w' => e = .returned (.bool (mayL l1 (k : Int) 1)) ∧ Below q.w.heap.size q.w w') := fun q => by
              obtain ⟨T, hT, _⟩ := Hv.use [lgA o 60 L] _ ((HX.out.still q.below).front 1 (by simp))
              exact may_yes i l1 (k : Int) 1 HL1 (by omega) (by omega) (by omega) (Lib.hid hT)
            have HN : Hid (∀ W2, Below V.heap.size V W2 → Hv w No [lgA x 61 (putT n b L p q), lgA o 60 L, blkA P3 22 #[.int .i64 (n : Int), .int .i64 (b : Int)], blkA P5 22 #[.int .i64 p, .int .i64 q]] W2) := fun W2 h => (HX.out.still h).pick [0, 1, 2, 3]
            clear s0 s1 hV0 hl2 hm2 HX S0 S1 HI1 HL2
            obtain ⟨M2, hM2⟩ : ∃ y, y = mayL l2 (k : Int) 1 := ⟨_, rfl⟩
            obtain ⟨M1, hM1⟩ : ∃ y, y = mayL l1 (k : Int) 1 := ⟨_, rfl⟩
            rw [← hM2] at HM1 HM2
            rw [← hM1] at HM0 HM2
            clear hM1 hM2
            have HW := HM2
            unfold ownB at HW
            obtain ⟨d1, e1⟩ : ∃ d, decide ((i : Int) = p) = d := ⟨_, rfl⟩
            obtain ⟨d2, e2⟩ : ∃ d, decide ((k : Int) = q) = d := ⟨_, rfl⟩
            obtain ⟨d3, e3⟩ : ∃ d, decide (q = -1) = d := ⟨_, rfl⟩
            rw [e1, e2, e3] at HW
            have f1 : ((i : Int) == p) = d1 := e1
            have f2 : ((k : Int) == q) = d2 := e2
            have f3 : (q == -1) = d3 := e3
            clear HM2
            cases d1 <;> cases d2 <;> cases d3 <;> cases M1
            all_goals
              first
                | (obtain rfl : M2 = true := HW.out)
                | (obtain rfl : M2 = false := HW.out)
                | fail
              clear HW
              go_wp2_with fail
              rw [← hV, ← hP]
              clear hV hP a0 a1 b0 b1
              refine wp_region_quiet_below (by kernel_rfl) (by kernel_rfl) ?_
              repeat (go_big_quiet_step (first | (go_at_call 13; with_reducible exact calls_ext (Nat.le_refl _) _ (HM1.out _)) | (go_at_call 13; with_reducible exact calls_ext (Nat.le_refl _) _ (HM0.out _)) | fail))
              refine wpQuiet_nil ?_
              intro W2 hw2
              obtain ⟨qq, hq⟩ := hw2
              have hb2 := qq.below
              rw [← hq] at hb2
              clear hq qq k0 k1
              have HZ := Lib.hid (HN.out W2 hb2)
              clear hb2
              go_wp2_with fail
              go_roundw
              case rel => exact ⟨k + 1, by omega, by go_num, HZ⟩
              case measure => simp [vInt]; omega
          · obtain rfl : k = b := by omega
            go_wp2_with fail
            go_roundw
            case rel => exact ⟨i + 1, by omega, by go_num, HI1⟩
            case measure => simp [vInt]; omega
      · obtain rfl : i = n := by omega
        have ht := (okO_iff.1 HOK.out).1
        obtain ⟨i0, rfl⟩ := Int.eq_ofNat_of_zero_le ht.1
        have HT : Hid (thereB i (i0 : Int) = true) := thereB_iff.2 ht
        have HI2 := Lib.hid (HI.out.putT (i0 : Int) q)
        have HS : Hid ((scrubT i (putT i b L (i0 : Int) q) (i0 : Int)).sets[i0]? = some []) := by
          show _ = _
          unfold scrubT
          rw [if_pos HT.out, Int.toNat_natCast]
          show (List.set _ _ _)[_]? = _
          rw [List.getElem?_set_self (by have := HI2.out.len; omega)]
        obtain ⟨P, hP⟩ : ∃ y, y = wr.heap.size := ⟨_, rfl⟩
        obtain ⟨V, hV⟩ : ∃ y, y = wr.alloc (.cells #[.int .i64 0, .int .i64 (b : Int)] 35) := ⟨_, rfl⟩
        have hV0 := HI1.out.alloc 35 #[.int .i64 0, .int .i64 (b : Int)]
        rw [← hV, ← hP] at hV0
        have HX : Hid (Hv w No [lgA x 61 (putT i b L (i0 : Int) q), blkA P5 22 #[.int .i64 (i0 : Int), .int .i64 q], blkA P 35 #[.int .i64 0, .int .i64 (b : Int)]] V) := hV0.pick [1, 4, 0]
        have c0 : (wr.alloc (.cells #[.int .i64 0, .int .i64 (b : Int)] 35)).cell? ⟨P5, 0, none⟩ = some (.int .i64 (i0 : Int)) := by
          have := (HX.out.blk (i := 1) rfl).cell 0
          rw [hV] at this
          simpa using this
        clear hV0 HOK ht HI1
        go_wp2_with fail
        rw [← hV, ← hP]
        rw [← hV] at c0
        clear hV hP
        obtain ⟨T, hT, hJ⟩ := Hv.use [lgA x 61 (putT i b L (i0 : Int) q)] _ HX.out
        refine (scrub_lg (i0 : Int) HI2 (Lib.hid hT)).mono ?_
        rintro e w5 ⟨rfl, h5⟩
        rw [HT.out]
        have HX5 : Hid (Hv w No [lgA x 62 (scrubT i (putT i b L (i0 : Int) q) (i0 : Int)), blkA P5 22 #[.int .i64 (i0 : Int), .int .i64 q], blkA P 35 #[.int .i64 0, .int .i64 (b : Int)]] w5) := hJ _ _ h5
        clear h5 hT hJ HX c0
        have c0 := (HX5.out.blk (i := 1) rfl).cell 0
        have c1 := (HX5.out.blk (i := 2) rfl).cell 0
        have c2 := (HX5.out.blk (i := 2) rfl).cell 1
        simp only [List.getElem?_toArray, List.getElem?_cons_zero, List.getElem?_cons_succ] at c0 c1 c2
        unfold codeB
        go_wp2_with fail
        obtain ⟨T, hT, hJ⟩ := Hv.use [lgA x 62 (scrubT i (putT i b L (i0 : Int) q) (i0 : Int))] _ HX5.out
        refine (may_yes i0 [] 0 (b : Int) HS (by omega) (by omega) (by have := hg.out; omega) (Lib.hid hT)).mono ?_
        rintro e w6 ⟨rfl, h6⟩
        rw [show mayL [] 0 (b : Int) = false from rfl]
        have HV6 := Lib.hid (HX5.out.still h6)
        clear h6 hT hJ HX5 c0 c1 c2
        go_wp2_with fail
        refine (awake_any _).mono ?_
        rintro e w7 ⟨rfl, hb7⟩
        have HB := Lib.hid (HV6.out.still hb7).below
        clear hb7
        go_wp2
        go_ret
        exact ⟨rfl, HB.out⟩
end Go.Proofs.Ytieojomabmippaa

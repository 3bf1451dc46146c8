/- The walk of Crash. -/
import Derived.Test.YtbfmgdkiigkioaaClone
import Derived.Test.YtbfmgdkiigkioaaFlush
namespace Go.Proofs.Ytbfmgdkiigkioaa
open Go.RowKit Go.LawEnd

/-- the writes that are kept -/
def kept : List Wr → List Bool → List Wr
  | p :: l, b :: ks => (if b = true then [p] else []) ++ kept l ks
  | _, _ => []
theorem kept_nil (l : List Wr) : kept l [] = [] := by cases l <;> rfl
theorem kept_take (l : List Wr) (ks : List Bool) (k : Nat) (hk : k < ks.length) (hl : k < l.length) : kept l (ks.take (k + 1)) = kept l (ks.take k) ++ (if ks[k] = true then [l[k]] else []) := by
  induction l generalizing ks k with
  | nil => simp at hl
  | cons p l ih =>
    cases ks with
    | nil => simp at hk
    | cons b ks =>
      cases k with
      | zero =>
        rw [List.take_succ_cons, List.take_zero, List.take_zero, kept_nil, kept, kept_nil]
        simp
      | succ k =>
        rw [List.take_succ_cons, List.take_succ_cons, kept, kept, ih ks k (by simpa using hk) (by simpa using hl)]
        simp
theorem flushL_append (f : List Int) (l : List Wr) (p : Wr) : flushL f (l ++ [p]) = (flushL f l).set p.1.toNat p.2 := by
  unfold flushL
  rw [List.foldl_append]
  rfl
def crashD (D : Dv) (ks : List Bool) : Dv := ⟨flushL D.firm (kept D.opn ks), [], [], true⟩
/-- a row of bools that is there -/
def RowB (w : World) (v : Value) (ks : List Bool) : Prop := ∃ A c, v = .slice A ks.length c ∧ ∀ j (hj : j < ks.length), ∃ kb ko, A = some ⟨kb, ko, none⟩ ∧ kb < w.heap.size ∧ w.cell? ⟨kb, ko + j, none⟩ = some (.bool ks[j])
section
variable {T : Nat → Prop} {d : Nat} {D : Dv} {w w0 : World} {L : List Atom}
theorem dev_reads {AF AO AP : Option Addr} {cF cO cP : Nat} (hv : Hv w T [blkA d 62 #[.slice AF D.firm.length cF, .slice AO D.opn.length cO, .slice AP D.plan.length cP], blA (.slice AF D.firm.length cF) D.firm, wrA (.slice AO D.opn.length cO) D.opn, plA (.slice AP D.plan.length cP) D.plan] w) (W : World) (hW : Below w.heap.size w W) :
    W.ownsRow 0 34 64 (.slice AF D.firm.length cF) D.firm.length (bls D.firm) ∧ W.ownsRow 0 66 65 (.slice AO D.opn.length cO) D.opn.length (wrs D.opn) ∧
      W.cell? ⟨d, 0, none⟩ = some (.slice AF D.firm.length cF) ∧ W.cell? ⟨d, 1, none⟩ = some (.slice AO D.opn.length cO) := by
  obtain ⟨S', hs, _⟩ := hv
  have h2 := Hv.start (hs.keep fun b hb => hW.block b (Nat.lt_of_lt_of_le (hs.lt hb) (Nat.le_refl _)))
  have h3 := h2.blk (i := 0) rfl
  exact ⟨h2.row (i := 1) rfl, h2.row (i := 2) rfl, by simpa using h3.cell 0, by simpa using h3.cell 1⟩
set_option maxRecDepth 100000 in
set_option maxHeartbeats 6400000 in
theorem crash_over {vK : Value} (ks : List Bool) (hK : Hid (RowB w vK ks)) (hmk : Hid (D.opn.length < ks.length)) (h : Hid (Sep [devA d D] w T)) :
    Calls Try.prog 17 #[.pointer (some ⟨d, 0, none⟩), vK] w fun e w' => e = .returned (.tuple #[.pointer none, .int .i64 1]) ∧ w = w' := by
  obtain ⟨AF, cF, AO, cO, AP, cP, k0, k1, k2, hv, hpn⟩ := dev_cells (Hv.start h.out)
  obtain ⟨A, c, rfl, _⟩ := hK.out
  obtain ⟨m, hm⟩ : ∃ m, m = D.opn.length := ⟨_, rfl⟩
  obtain ⟨n, hn⟩ : ∃ m, m = ks.length := ⟨_, rfl⟩
  have hd := hmk.out
  rw [← hm] at k1 hd
  rw [← hn] at hd
  rw [← hn]
  have d1 : decide ((m : Int) < (n : Int)) = true := decide_eq_true (by omega)
  clear hv hpn hm hn hK
  go_enter Try.func17, Try.ntmps17
  go_wp2
  go_ret2
  exact ⟨rfl, rfl⟩
set_option maxRecDepth 100000 in
set_option maxHeartbeats 6400000 in
theorem crash_any {vK : Value} (ks : List Bool) (hK : Hid (RowB w vK ks)) (hmk : Hid (ks.length ≤ D.opn.length)) (HLE : Hid (D.opn.length ≤ 100000)) (hf : Hid (D.firm ≠ [] ∧ D.firm.length ≤ 5000)) (HOK : Hid (OkD D)) (h : Hid (Sep [devA d D] w T)) :
    Calls Try.prog 17 #[.pointer (some ⟨d, 0, none⟩), vK] w fun e w' => ∃ x : Nat, e = .returned (.tuple #[.pointer (some ⟨x, 0, none⟩), .int .i64 0]) ∧ Hv w No [devA x (crashD D ks)] w' := by
  obtain ⟨AF, cF, AO, cO, AP, cP, k0, k1, k2, hv, hpn⟩ := dev_cells (Hv.start h.out)
  obtain ⟨A, c, rfl, hkc⟩ := hK.out
  have HK : Hid (∀ W, Below w.heap.size w W → ∀ j (hj : j < ks.length), ∃ kb ko, A = some ⟨kb, ko, none⟩ ∧ W.cell? ⟨kb, ko + j, none⟩ = some (.bool ks[j])) := fun W hW j hj => by
    obtain ⟨kb, ko, h1, h2, h3⟩ := hkc j hj
    exact ⟨kb, ko, h1, (hW.cell (p := ⟨kb, ko + j, none⟩) h2).trans h3⟩
  have HROW : Hid (∀ W, Below w.heap.size w W → _) := Lib.hid (dev_reads hv)
  obtain ⟨m, hm⟩ : ∃ m, m = D.opn.length := ⟨_, rfl⟩
  obtain ⟨n, hn⟩ : ∃ m, m = ks.length := ⟨_, rfl⟩
  obtain ⟨nF, hnF⟩ : ∃ m, m = D.firm.length := ⟨_, rfl⟩
  have hd := hmk.out
  have hmb := HLE.out
  rw [← hm] at k1 hd HROW hmb
  rw [← hn] at hd
  rw [← hnF] at k0 HROW
  rw [← hn]
  have d1 : decide ((m : Int) < (n : Int)) = false := decide_eq_false (by omega)
  have HM := Lib.hid hm
  have HN := Lib.hid hn
  have HNF := Lib.hid hnF
  clear hv hpn hm hn hK hnF hkc k2
  go_enter Try.func17, Try.ntmps17
  go_wp2_with fail
  have hr := (HROW.out _ (Below.refl _ _)).1
  refine (clone_bl D.firm _ (by rw [← HNF.out]; exact hr) hf.out.1 hf.out.2).mono ?_
  rintro e W1 ⟨v1, rfl, h1⟩
  obtain ⟨A1, c1, rfl⟩ := row_form (h1.row (i := 0) rfl)
  rw [← HNF.out]
  rw [← HNF.out] at h1
  have HX1 := Lib.hid h1
  clear h1 hr k0 k1
  go_wp2_with fail
  obtain ⟨x, hx⟩ : ∃ y, y = W1.heap.size := ⟨_, rfl⟩
  obtain ⟨W2, hW2⟩ : ∃ y, y = W1.alloc (.cells #[.slice A1 nF c1, .slice none 0 0, .slice none 0 0] 62) := ⟨_, rfl⟩
  have h2 := HX1.out.alloc 62 #[.slice A1 nF c1, .slice none 0 0, .slice none 0 0]
  rw [← hW2, ← hx] at h2
  rw [← hW2, ← hx]
  have H0 : Hid (Hv w No [blA (.slice A1 nF c1) (flushL D.firm (kept D.opn (ks.take 0))), blkA x 62 #[.slice A1 nF c1, .slice none 0 0, .slice none 0 0]] W2) := by
    show Hv w No [blA _ _, _] W2
    rw [List.take_zero, kept_nil]
    have e : blA (.slice A1 nF c1) (flushL D.firm []) = blA (.slice A1 nF c1) D.firm := rfl
    rw [e]
    exact h2.pick [1, 0]
  clear h2 hW2 hx HX1
  have hml := markC_length
  go_loopw [30] (fun i wr => ∃ k : Nat, k ≤ n ∧ i = .int .i64 k ∧ Hv w No [blA (.slice A1 nF c1) (flushL D.firm (kept D.opn (ks.take k))), blkA x 62 #[.slice A1 nF c1, .slice none 0 0, .slice none 0 0]] wr) (fun i _ => n - (intOf i).toNat)
  case atStart => exact ⟨0, by omega, rfl, H0.out⟩
  case round =>
    clear H0
    obtain ⟨k, hk, rfl, hi⟩ := hrel
    have HI := Lib.hid hi
    clear hi
    by_cases hkl : k < n
    · have hkl' : k < ks.length := by rw [← HN.out]; exact hkl
      have hko : k < D.opn.length := by rw [← HM.out]; omega
      obtain ⟨kb, ko, rfl, hq⟩ := HK.out wr HI.out.below k hkl'
      have hstep := kept_take D.opn ks k hkl' hko
      obtain ⟨q, hqd⟩ : ∃ q, q = ks[k] := ⟨_, rfl⟩
      rw [← hqd] at hq hstep
      have hok := HOK.out D.opn[k] (List.getElem_mem hko)
      obtain ⟨y, hy⟩ : ∃ y, y = D.opn[k] := ⟨_, rfl⟩
      rw [← hy] at hok hstep
      have HY : Hid (D.opn[k]? = some y) := by show _ = _; rw [hy, List.getElem?_eq_getElem hko]
      clear hqd hy hkl' hko
      cases q with
      | false =>
        have HST : Hid (flushL D.firm (kept D.opn (ks.take (k + 1))) = flushL D.firm (kept D.opn (ks.take k))) := by show _ = _; rw [hstep]; simp
        clear hstep hok
        go_wp2
        go_roundw
        case rel => exact ⟨k + 1, by omega, rfl, by rw [HST.out]; exact HI.out⟩
        case measure => simp [intOf]; omega
      | true =>
        obtain ⟨y0, z⟩ := y
        have HST : Hid (flushL D.firm (kept D.opn (ks.take (k + 1))) = (flushL D.firm (kept D.opn (ks.take k))).set y0.toNat z) := by show _ = _; rw [hstep, if_pos rfl, flushL_append]
        have hok0 : 0 ≤ y0 := hok.1
        have hok1 : y0 < (nF : Int) := by rw [HNF.out]; exact hok.2
        clear hstep hok
        obtain ⟨fk, hfk⟩ : ∃ f, f = flushL D.firm (kept D.opn (ks.take k)) := ⟨_, rfl⟩
        have hfl : fk.length = nF := by rw [hfk, flushL_length, HNF.out]
        rw [← hfk] at HI HST
        have HYL : Hid (y0.toNat < fk.length) := by show _ < _; omega
        have HFL := Lib.hid hfl
        clear hfk hfl
        have HKP : Hid (∀ (l : List Int) (W : World), Hv w No [blA (.slice A1 nF c1) l, blkA x 62 #[.slice A1 nF c1, .slice none 0 0, .slice none 0 0]] W →
            ∃ b, AO = some ⟨b, 0, none⟩ ∧ (W.cell? ⟨x, 0, none⟩ = some (.slice A1 nF c1) ∧ W.cell? ⟨d, 1, none⟩ = some (.slice AO m cO) ∧ W.cell? ⟨b, k * 65, none⟩ = some (.int .i64 y0) ∧ W.rangeAt b (k * 65 + 1) (markC z))) := fun l W hv => by
          obtain ⟨_, r2, _, r4⟩ := HROW.out W hv.below
          have hko : k < D.opn.length := (List.getElem?_eq_some_iff.1 HY.out).1
          rw [HM.out] at r2
          obtain ⟨b, e, _, hr, _⟩ := row_range r2 k hko
          have hy : D.opn[k] = (y0, z) := by
            have := HY.out
            rw [List.getElem?_eq_getElem hko] at this
            injection this
          rw [hy] at hr
          have hs := range_split hr
          exact ⟨b, e, by simpa using (hv.blk (i := 1) rfl).cell 0, r4, hs.1, hs.2⟩
        obtain ⟨b, rfl, _⟩ := HKP.out _ _ HI.out
        have HKQ : Hid (∀ (l : List Int) (W : World), Hv w No [blA (.slice A1 nF c1) l, blkA x 62 #[.slice A1 nF c1, .slice none 0 0, .slice none 0 0]] W →
            (W.cell? ⟨x, 0, none⟩ = some (.slice A1 nF c1) ∧ W.cell? ⟨d, 1, none⟩ = some (.slice (some ⟨b, 0, none⟩) m cO) ∧ W.cell? ⟨b, k * 65, none⟩ = some (.int .i64 y0) ∧ W.rangeAt b (k * 65 + 1) (markC z))) := fun l W hv => by
          obtain ⟨b', e, h⟩ := HKP.out l W hv
          injection e with e
          injection e with e
          subst e
          exact h
        clear HKP
        obtain ⟨g, rfl, _, _, hth⟩ := firm_range HI.out.drew (i := 0) rfl y0.toNat HYL.out
        have hst : (storeCells ⟨g, y0.toNat * 64, none⟩ (markC z)).run Try.prog wr.drew = .ok () (wr.drew.setCells g (y0.toNat * 64) (markC z)) := cells_block hth
        have h3 := set_firm HFL.out HI.out.drew y0.toNat HYL.out z
        obtain ⟨W3, hW3⟩ : ∃ y, y = wr.drew.setCells g (y0.toNat * 64) (markC z) := ⟨_, rfl⟩
        rw [← hW3] at h3 hst
        have H3 := Lib.hid h3
        obtain ⟨e1, e2, e3, e4⟩ := HKQ.out _ _ HI.out
        have d2 : decide (y0 < (nF : Int)) = true := decide_eq_true hok1
        have d3 : decide (0 ≤ y0) = true := decide_eq_true hok0
        have d4 : decide ((k : Int) < (m : Int)) = true := decide_eq_true (by omega)
        have hkm : k < m := by omega
        clear h3 hW3 hth
        go_wp2_with fail
        clear hq
        refine wp_region_noPanic ?_
        refine wp_region_held_drew (S := (fun W => W.cell? ⟨x, 0, none⟩ = some (.slice (some ⟨g, 0, none⟩) nF c1) ∧ W.cell? ⟨d, 1, none⟩ = some (.slice (some ⟨b, 0, none⟩) m cO) ∧ W.cell? ⟨b, k * 65, none⟩ = some (.int .i64 y0) ∧ W.rangeAt b (k * 65 + 1) (markC z))) (by kernel_rfl) ⟨e1, e2, e3, e4⟩ (fun hHeld => ?_)
        refine wpAnyH_take (i := 0) (v := ?v0) rfl (by kernel_rfl) (by kernel_rfl) (by kernel_rfl) (fun _ _ _ h => h) (Or.inl ⟨by rfl, ?hy0⟩) (by assumption) ?rest0
        case hy0 =>
          intro w hSw
          (try dsimp only at hSw)
          go_simp
          try with_reducible rfl
        try simp only [Act.put, List.getElem_toArray, List.getElem_cons_zero, List.setIfInBounds_toArray, List.set_cons_zero, List.set_cons_succ]
        refine wpAnyH_take (i := 1) (v := ?v1) rfl (by kernel_rfl) (by kernel_rfl) (by kernel_rfl) (fun _ _ _ h => h) (Or.inl ⟨by rfl, ?hy1⟩) (by assumption) ?rest1
        case hy1 =>
          intro w hSw
          (try dsimp only at hSw)
          go_simp
          try with_reducible rfl
        try simp only [Act.put, List.getElem_toArray, List.getElem_cons_zero, List.getElem_cons_succ, List.setIfInBounds_toArray, List.set_cons_zero, List.set_cons_succ]
        refine wpAnyH_take (i := 2) (v := ?v2) rfl (by kernel_rfl) (by kernel_rfl) (by kernel_rfl) (fun _ _ _ h => h) (Or.inl ⟨by rfl, ?hy2⟩) (by assumption) ?rest2
        case hy2 =>
          intro w hSw
          (try dsimp only at hSw)
          go_simp
          try with_reducible rfl
        try simp only [Act.put, List.getElem_toArray, List.getElem_cons_zero, List.getElem_cons_succ, List.setIfInBounds_toArray, List.set_cons_zero, List.set_cons_succ]
        refine wpAnyH_take (i := 3) (v := ?v3) rfl (by kernel_rfl) (by kernel_rfl) (by kernel_rfl) (fun _ _ _ h => h) (Or.inl ⟨by rfl, ?hy3⟩) (by assumption) ?rest3
        case hy3 =>
          intro w hSw
          (try dsimp only at hSw)
          go_simp
          try with_reducible rfl
        try simp only [Act.put, List.getElem_toArray, List.getElem_cons_zero, List.getElem_cons_succ, List.setIfInBounds_toArray, List.set_cons_zero, List.set_cons_succ]
        refine wpAnyH_take (i := 4) (v := ?v4) rfl (by kernel_rfl) (by kernel_rfl) (by kernel_rfl) (fun _ _ _ h => h) (Or.inl ⟨by rfl, ?hy4⟩) (by assumption) ?rest4
        case hy4 =>
          intro w hSw
          (try dsimp only at hSw)
          go_simp
          try with_reducible rfl
        try simp only [Act.put, List.getElem_toArray, List.getElem_cons_zero, List.getElem_cons_succ, List.setIfInBounds_toArray, List.set_cons_zero, List.set_cons_succ]
        refine wpAnyH_take (i := 5) (v := ?v5) rfl (by kernel_rfl) (by kernel_rfl) (by kernel_rfl) (fun _ _ _ h => h) (Or.inl ⟨by rfl, ?hy5⟩) (by assumption) ?rest5
        case hy5 =>
          intro w hSw
          (try dsimp only at hSw)
          go_simp
          try with_reducible rfl
        try simp only [Act.put, List.getElem_toArray, List.getElem_cons_zero, List.getElem_cons_succ, List.setIfInBounds_toArray, List.set_cons_zero, List.set_cons_succ]
        refine wpAnyH_take (i := 6) (v := ?v6) rfl (by kernel_rfl) (by kernel_rfl) (by kernel_rfl) (fun _ _ _ h => h) (Or.inl ⟨by rfl, ?hy6⟩) (by assumption) ?rest6
        case hy6 =>
          intro w hSw
          (try dsimp only at hSw)
          go_simp
          try with_reducible rfl
        try simp only [Act.put, List.getElem_toArray, List.getElem_cons_zero, List.getElem_cons_succ, List.setIfInBounds_toArray, List.set_cons_zero, List.set_cons_succ]
        refine wpAnyH_take (i := 7) (v := ?v7) rfl (by kernel_rfl) (by kernel_rfl) (by kernel_rfl) (fun _ _ _ h => h) (Or.inl ⟨by rfl, ?hy7⟩) (by assumption) ?rest7
        case hy7 =>
          intro w hSw
          (try dsimp only at hSw)
          go_simp
          try with_reducible rfl
        try simp only [Act.put, List.getElem_toArray, List.getElem_cons_zero, List.getElem_cons_succ, List.setIfInBounds_toArray, List.set_cons_zero, List.set_cons_succ]
        refine wpAnyH_take (i := 8) (v := ?v8) rfl (by kernel_rfl) (by kernel_rfl) (by kernel_rfl) (fun _ _ _ h => h) (Or.inl ⟨by rfl, ?hy8⟩) (by assumption) ?rest8
        case hy8 =>
          intro w hSw
          (try dsimp only at hSw)
          go_simp
          try with_reducible rfl
        try simp only [Act.put, List.getElem_toArray, List.getElem_cons_zero, List.getElem_cons_succ, List.setIfInBounds_toArray, List.set_cons_zero, List.set_cons_succ]
        refine wpAnyH_take (i := 9) (v := ?v9) rfl (by kernel_rfl) (by kernel_rfl) (by kernel_rfl) (fun _ _ _ h => h) (Or.inl ⟨by rfl, ?hy9⟩) (by assumption) ?rest9
        case hy9 =>
          intro w hSw
          (try dsimp only at hSw)
          go_simp
          try with_reducible rfl
        try simp only [Act.put, List.getElem_toArray, List.getElem_cons_zero, List.getElem_cons_succ, List.setIfInBounds_toArray, List.set_cons_zero, List.set_cons_succ]
        refine wpAnyH_take (i := 10) (v := ?v10) rfl (by kernel_rfl) (by kernel_rfl) (by kernel_rfl) (fun _ _ _ h => h) (Or.inl ⟨by rfl, ?hy10⟩) (by assumption) ?rest10
        case hy10 =>
          intro w hSw
          (try dsimp only at hSw)
          go_simp
          try with_reducible rfl
        try simp only [Act.put, List.getElem_toArray, List.getElem_cons_zero, List.getElem_cons_succ, List.setIfInBounds_toArray, List.set_cons_zero, List.set_cons_succ]
        refine wpAnyH_take (i := 11) (v := ?v11) rfl (by kernel_rfl) (by kernel_rfl) (by kernel_rfl) (fun _ _ _ h => h) (Or.inl ⟨by rfl, ?hy11⟩) (by assumption) ?rest11
        case hy11 =>
          intro w hSw
          (try dsimp only at hSw)
          go_simp
          try with_reducible rfl
        try simp only [Act.put, List.getElem_toArray, List.getElem_cons_zero, List.getElem_cons_succ, List.setIfInBounds_toArray, List.set_cons_zero, List.set_cons_succ]
        refine wpAnyH_take (i := 12) (v := ?v12) rfl (by kernel_rfl) (by kernel_rfl) (by kernel_rfl) (fun _ _ _ h => h) (Or.inl ⟨by rfl, ?hy12⟩) (by assumption) ?rest12
        case hy12 =>
          intro w hSw
          (try dsimp only at hSw)
          go_simp
          try with_reducible rfl
        try simp only [Act.put, List.getElem_toArray, List.getElem_cons_zero, List.getElem_cons_succ, List.setIfInBounds_toArray, List.set_cons_zero, List.set_cons_succ]
        refine wpAnyH_take (i := 13) (v := ?v13) rfl (by kernel_rfl) (by kernel_rfl) (by kernel_rfl) (fun _ _ _ h => h) (Or.inl ⟨by rfl, ?hy13⟩) (by assumption) ?rest13
        case hy13 =>
          intro w hSw
          (try dsimp only at hSw)
          go_simp
          try with_reducible rfl
        try simp only [Act.put, List.getElem_toArray, List.getElem_cons_zero, List.getElem_cons_succ, List.setIfInBounds_toArray, List.set_cons_zero, List.set_cons_succ]
        refine wpAnyH_take (i := 14) (v := ?v14) rfl (by kernel_rfl) (by kernel_rfl) (by kernel_rfl) (fun _ _ _ h => h) (Or.inl ⟨by rfl, ?hy14⟩) (by assumption) ?rest14
        case hy14 =>
          intro w hSw
          (try dsimp only at hSw)
          go_simp
          try with_reducible rfl
        try simp only [Act.put, List.getElem_toArray, List.getElem_cons_zero, List.getElem_cons_succ, List.setIfInBounds_toArray, List.set_cons_zero, List.set_cons_succ]
        refine wpAnyH_take (i := 15) (v := ?v15) rfl (by kernel_rfl) (by kernel_rfl) (by kernel_rfl) (fun _ _ _ h => h) (Or.inl ⟨by rfl, ?hy15⟩) (by assumption) ?rest15
        case hy15 =>
          intro w hSw
          (try dsimp only at hSw)
          go_simp
          try with_reducible rfl
        try simp only [Act.put, List.getElem_toArray, List.getElem_cons_zero, List.getElem_cons_succ, List.setIfInBounds_toArray, List.set_cons_zero, List.set_cons_succ]
        refine wpAnyH_take (i := 16) (v := ?v16) rfl (by kernel_rfl) (by kernel_rfl) (by kernel_rfl) (fun _ _ _ h => h) (Or.inl ⟨by rfl, ?hy16⟩) (by assumption) ?rest16
        case hy16 =>
          intro w hSw
          (try dsimp only at hSw)
          go_simp
          try with_reducible rfl
        try simp only [Act.put, List.getElem_toArray, List.getElem_cons_zero, List.getElem_cons_succ, List.setIfInBounds_toArray, List.set_cons_zero, List.set_cons_succ]
        refine wpAnyH_take (i := 17) (v := ?v17) rfl (by kernel_rfl) (by kernel_rfl) (by kernel_rfl) (fun _ _ _ h => h) (Or.inl ⟨by rfl, ?hy17⟩) (by assumption) ?rest17
        case hy17 =>
          intro w hSw
          (try dsimp only at hSw)
          go_simp
          try with_reducible rfl
        try simp only [Act.put, List.getElem_toArray, List.getElem_cons_zero, List.getElem_cons_succ, List.setIfInBounds_toArray, List.set_cons_zero, List.set_cons_succ]
        refine wpAnyH_take (i := 18) (v := ?v18) rfl (by kernel_rfl) (by kernel_rfl) (by kernel_rfl) (fun _ _ _ h => h) (Or.inl ⟨by rfl, ?hy18⟩) (by assumption) ?rest18
        case hy18 =>
          intro w hSw
          (try dsimp only at hSw)
          go_simp
          try with_reducible rfl
        try simp only [Act.put, List.getElem_toArray, List.getElem_cons_zero, List.getElem_cons_succ, List.setIfInBounds_toArray, List.set_cons_zero, List.set_cons_succ]
        refine wpAnyH_take (i := 19) (v := .agg _) rfl (by kernel_rfl) (by kernel_rfl) (by kernel_rfl) (fun _ _ _ h => h) (yieldsIf_load_mid (by rfl) 34 (.tmp 54) rfl _ _ rfl (markC z) _ (fun w hSw => hSw.2.2.2) Try.underlying34 rfl (by rw [size34, markC_length])) (by assumption) ?_
        try simp only [Act.put, List.getElem_toArray, List.getElem_cons_zero, List.getElem_cons_succ, List.setIfInBounds_toArray, List.set_cons_zero, List.set_cons_succ]
        refine wpAnyH_take (i := 20) (v := ?v20) rfl (by kernel_rfl) (by kernel_rfl) (by kernel_rfl) (fun _ _ _ h => h) (Or.inl ⟨by rfl, ?hy20⟩) (by assumption) ?rest20
        case hy20 =>
          intro w hSw
          (try dsimp only at hSw)
          go_simp
          try with_reducible rfl
        try simp only [Act.put, List.getElem_toArray, List.getElem_cons_zero, List.getElem_cons_succ, List.setIfInBounds_toArray, List.set_cons_zero, List.set_cons_succ]
        refine wpAnyH_ready (rs := [21]) (by kernel_rfl) (by simp) ?_
        refine AllReadyH.cons rfl (fun K hK => ?_) AllReadyH.nil
        go_simp
        refine hK.out _ _ (HKQ.out _ _ H3.out) (fun hHeld3 => ?_)
        clear hK K
        refine wpAnyH_done (by kernel_rfl) ?_ _
        refine NoPanic.normal ?_
        clear hHeld hHeld3 e1 e2 e3 e4 hst HKQ
        go_wp2
        go_roundw
        case rel => exact ⟨k + 1, by omega, rfl, by rw [HST.out]; exact H3.out⟩
        case measure => simp [intOf]; omega
    · obtain rfl : k = n := by omega
      have HX : Hid (Hv w No [devA x (crashD D ks)] wr) := by
        have h1 := hv_nilWin (HI.out.nilRow 66 65) 3
        refine dev_close (R := []) (D := crashD D ks) (vF := .slice A1 nF c1) (vO := .slice none 0 0) (vP := .slice none 0 0) ?_ ⟨fun _ => rfl, fun _ => rfl⟩
        have e : flushL D.firm (kept D.opn (ks.take k)) = (crashD D ks).firm := by rw [HN.out, List.take_length]; rfl
        rw [e] at h1
        exact h1.pick [3, 2, 1, 0]
      clear HI
      go_wp2
      go_ret2
      exact ⟨_, rfl, HX.out⟩
end
end Go.Proofs.Ytbfmgdkiigkioaa

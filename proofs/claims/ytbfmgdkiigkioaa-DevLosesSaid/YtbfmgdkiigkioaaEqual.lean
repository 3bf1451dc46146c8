/- Equal of rows of sectors, and of writes. -/
import Derived.Test.YtbfmgdkiigkioaaEqB
namespace Go.Proofs.Ytbfmgdkiigkioaa
open Go.RowKit Go.LawEnd

set_option maxRecDepth 100000 in
set_option maxHeartbeats 6400000 in
theorem eq_bl {v1 v2 : Value} (a b : List Int) (w : World) (ha : Hid (w.ownsRow 0 34 64 v1 a.length (bls a))) (hb : Hid (w.ownsRow 0 34 64 v2 b.length (bls b))) (la : Hid (a.length ≤ 100000)) (ka : Hid (∀ x ∈ a, 0 ≤ x ∧ x < 256)) (kb : Hid (∀ x ∈ b, 0 ≤ x ∧ x < 256)) :
    Calls Try.prog 34 #[v1, v2] w fun e w' => e = .returned (.bool (decide (a = b))) ∧ Below w.heap.size w w' := by
  obtain ⟨A1, c1, rfl⟩ := row_form ha.out
  obtain ⟨A2, c2, rfl⟩ := row_form hb.out
  obtain ⟨n, hn⟩ : ∃ n, n = a.length := ⟨_, rfl⟩
  obtain ⟨m, hm⟩ : ∃ n, n = b.length := ⟨_, rfl⟩
  have HN := Lib.hid hn
  have HM := Lib.hid hm
  rw [← hn, ← hm]
  have hnb := la.out
  rw [← hn] at hnb
  clear hn hm
  by_cases hl : n = m
  · subst hl
    go_enter Try.func34, Try.ntmps34
    go_wp2_with fail
    go_loopw [13] (fun i wr => ∃ k : Nat, k ≤ n ∧ i = .int .i64 k ∧ Hid (a.take k = b.take k) ∧ Hid (Below w.heap.size w wr)) (fun i _ => n - (intOf i).toNat)
    case atStart => exact ⟨0, by omega, rfl, rfl, Below.refl _ _⟩
    case round =>
      obtain ⟨k, hk, rfl, HT, HB⟩ := hrel
      by_cases hkl : k < n
      · have hka : k < a.length := by rw [← HN.out]; exact hkl
        have hkb : k < b.length := by rw [← HM.out]; exact hkl
        have HRA : Hid (∀ W, Below w.heap.size w W → ∃ g, A1 = some ⟨g, 0, none⟩ ∧ W.rangeAt g (k * 64) (markC a[k])) := fun W hW => by
          exact flat_range markC 64 markC_length (row_below ha.out hW) k hka
        have HRB : Hid (∀ W, Below w.heap.size w W → ∃ g, A2 = some ⟨g, 0, none⟩ ∧ W.rangeAt g (k * 64) (markC b[k])) := fun W hW => by
          exact flat_range markC 64 markC_length (row_below hb.out hW) k hkb
        have hne := fun w => neq_block (ka.out a[k] (List.getElem_mem hka)) (kb.out b[k] (List.getElem_mem hkb)) w
        obtain ⟨x, hx⟩ : ∃ y, y = a[k] := ⟨_, rfl⟩
        obtain ⟨y, hy⟩ : ∃ y, y = b[k] := ⟨_, rfl⟩
        rw [← hx] at HRA hne
        rw [← hy] at HRB hne
        have HX : Hid (a[k]? = some x) := by show _ = _; rw [hx, List.getElem?_eq_getElem hka]
        have HY : Hid (b[k]? = some y) := by show _ = _; rw [hy, List.getElem?_eq_getElem hkb]
        clear hx hy hka hkb
        obtain ⟨z, hz⟩ : ∃ z, z = !decide (x = y) := ⟨_, rfl⟩
        rw [← hz] at hne
        have HZ := Lib.hid hz
        clear hz
        obtain ⟨b1, rfl, r1⟩ := HRA.out wr HB.out
        obtain ⟨b2, rfl, r2⟩ := HRB.out wr HB.out
        clear HRA HRB
        have f1 : (0 : Int) ≤ (k : Int) := by omega
        have f2 : (k : Int) < (n : Int) := by omega
        go_wp2_with fail
        refine wp_region_noPanic ?_
        refine wp_region_held_drew (S := (fun W => W.rangeAt b1 (k * 64) (markC x) ∧ W.rangeAt b2 (k * 64) (markC y))) (by kernel_rfl) ⟨r1, r2⟩ (fun hHeld => ?_)
        refine wpAnyH_take (i := 0) (v := ?v0) rfl (by kernel_rfl) (by kernel_rfl) (by kernel_rfl) (fun _ _ _ h => h) (Or.inl ⟨by rfl, ?hy0⟩) (by assumption) ?rest0
        case hy0 =>
          intro w hSw
          (try dsimp only at hSw)
          go_simp
          try with_reducible rfl
        try simp only [Act.put, List.getElem_toArray, List.getElem_cons_zero, List.setIfInBounds_toArray, List.set_cons_zero, List.set_cons_succ]
        refine wpAnyH_take (i := 1) (v := ?v1) rfl (by kernel_rfl) (by kernel_rfl) (by kernel_rfl) (fun _ _ _ h => h) (Or.inl ⟨by rfl, ?hy1⟩) (by assumption) ?rest1
        case hy1 =>
          intro w hSw
          (try dsimp only at hSw)
          go_simp
          try with_reducible rfl
        try simp only [Act.put, List.getElem_toArray, List.getElem_cons_zero, List.getElem_cons_succ, List.setIfInBounds_toArray, List.set_cons_zero, List.set_cons_succ]
        refine wpAnyH_take (i := 2) (v := ?v2) rfl (by kernel_rfl) (by kernel_rfl) (by kernel_rfl) (fun _ _ _ h => h) (Or.inl ⟨by rfl, ?hy2⟩) (by assumption) ?rest2
        case hy2 =>
          intro w hSw
          (try dsimp only at hSw)
          go_simp
          try with_reducible rfl
        try simp only [Act.put, List.getElem_toArray, List.getElem_cons_zero, List.getElem_cons_succ, List.setIfInBounds_toArray, List.set_cons_zero, List.set_cons_succ]
        refine wpAnyH_take (i := 3) (v := .agg _) rfl (by kernel_rfl) (by kernel_rfl) (by kernel_rfl) (fun _ _ _ h => h) (yieldsIf_load_mid (by rfl) 34 (.tmp 18) rfl _ _ rfl (markC x) _ (fun w hSw => hSw.1) Try.underlying34 rfl (by rw [size34, markC_length])) (by assumption) ?_
        try simp only [Act.put, List.getElem_toArray, List.getElem_cons_zero, List.getElem_cons_succ, List.setIfInBounds_toArray, List.set_cons_zero, List.set_cons_succ]
        refine wpAnyH_take (i := 4) (v := ?v4) rfl (by kernel_rfl) (by kernel_rfl) (by kernel_rfl) (fun _ _ _ h => h) (Or.inl ⟨by rfl, ?hy4⟩) (by assumption) ?rest4
        case hy4 =>
          intro w hSw
          (try dsimp only at hSw)
          go_simp
          try with_reducible rfl
        try simp only [Act.put, List.getElem_toArray, List.getElem_cons_zero, List.getElem_cons_succ, List.setIfInBounds_toArray, List.set_cons_zero, List.set_cons_succ]
        refine wpAnyH_take (i := 5) (v := ?v5) rfl (by kernel_rfl) (by kernel_rfl) (by kernel_rfl) (fun _ _ _ h => h) (Or.inl ⟨by rfl, ?hy5⟩) (by assumption) ?rest5
        case hy5 =>
          intro w hSw
          (try dsimp only at hSw)
          go_simp
          try with_reducible rfl
        try simp only [Act.put, List.getElem_toArray, List.getElem_cons_zero, List.getElem_cons_succ, List.setIfInBounds_toArray, List.set_cons_zero, List.set_cons_succ]
        refine wpAnyH_take (i := 6) (v := ?v6) rfl (by kernel_rfl) (by kernel_rfl) (by kernel_rfl) (fun _ _ _ h => h) (Or.inl ⟨by rfl, ?hy6⟩) (by assumption) ?rest6
        case hy6 =>
          intro w hSw
          (try dsimp only at hSw)
          go_simp
          try with_reducible rfl
        try simp only [Act.put, List.getElem_toArray, List.getElem_cons_zero, List.getElem_cons_succ, List.setIfInBounds_toArray, List.set_cons_zero, List.set_cons_succ]
        refine wpAnyH_take (i := 7) (v := .agg _) rfl (by kernel_rfl) (by kernel_rfl) (by kernel_rfl) (fun _ _ _ h => h) (yieldsIf_load_mid (by rfl) 34 (.tmp 22) rfl _ _ rfl (markC y) _ (fun w hSw => hSw.2) Try.underlying34 rfl (by rw [size34, markC_length])) (by assumption) ?_
        try simp only [Act.put, List.getElem_toArray, List.getElem_cons_zero, List.getElem_cons_succ, List.setIfInBounds_toArray, List.set_cons_zero, List.set_cons_succ]
        refine wpAnyH_take (i := 8) (v := ?v8) rfl (by kernel_rfl) (by kernel_rfl) (by kernel_rfl) (fun _ _ _ h => h) (Or.inl ⟨by rfl, ?hy8⟩) (by assumption) ?rest8
        case hy8 =>
          intro w hSw
          (try dsimp only at hSw)
          go_simp
          try with_reducible rfl
        try simp only [Act.put, List.getElem_toArray, List.getElem_cons_zero, List.getElem_cons_succ, List.setIfInBounds_toArray, List.set_cons_zero, List.set_cons_succ]
        refine wpAnyH_done (by kernel_rfl) ?_ _
        refine NoPanic.normal ?_
        have HB2 : Hid (Below w.heap.size w wr.drew) := HB.out.trans ((Hv.begin wr).drew.below.mono HB.out.size)
        clear hHeld r1 r2 hne
        cases z
        · have HT2 : Hid (a.take (k + 1) = b.take (k + 1)) := by
            show _ = _
            have hxy : x = y := by have := HZ.out; simpa using this
            rw [List.take_add_one, List.take_add_one, HT.out, HX.out, HY.out, hxy]
          go_wp2
          go_roundw
          case rel => exact ⟨k + 1, by omega, rfl, HT2, HB2⟩
          case measure => simp [intOf]; omega
        · have HD : Hid (decide (a = b) = false) := by
            refine decide_eq_false fun e => ?_
            have h1 := HX.out
            rw [e, HY.out] at h1
            injection h1 with h1
            have := HZ.out
            simp [h1] at this
          go_wp2
          go_ret
          exact ⟨by (first | (rw [HD.out]; done) | (rw [HD.out]; rfl)), HB2.out⟩
      · obtain rfl : k = n := by omega
        have HD : Hid (decide (a = b) = true) := by
          refine decide_eq_true ?_
          have h1 := HT.out
          rw [List.take_of_length_le (by rw [← HN.out]; exact Nat.le_refl _), List.take_of_length_le (by rw [← HM.out]; exact Nat.le_refl _)] at h1
          exact h1
        go_wp2
        go_ret
        exact ⟨by (first | (rw [HD.out]; done) | (rw [HD.out]; rfl)), HB.out⟩
  · have HD : Hid (decide (a = b) = false) := decide_eq_false fun e => hl (by rw [HN.out, HM.out, e])
    have hl2 : ((n : Int) = (m : Int)) = False := by simp; omega
    go_enter Try.func34, Try.ntmps34
    go_wp2
    go_ret
    exact ⟨by (first | (rw [HD.out]; done) | (rw [HD.out]; rfl)), Below.refl _ _⟩
set_option maxRecDepth 100000 in
set_option maxHeartbeats 6400000 in
theorem eq_wr {v1 v2 : Value} (a b : List Wr) (w : World) (ha : Hid (w.ownsRow 0 66 65 v1 a.length (wrs a))) (hb : Hid (w.ownsRow 0 66 65 v2 b.length (wrs b))) (la : Hid (a.length ≤ 100000)) (ka : Hid (∀ x ∈ a, 0 ≤ x.2 ∧ x.2 < 256)) (kb : Hid (∀ x ∈ b, 0 ≤ x.2 ∧ x.2 < 256)) :
    Calls Try.prog 35 #[v1, v2] w fun e w' => e = .returned (.bool (decide (a = b))) ∧ Below w.heap.size w w' := by
  obtain ⟨A1, c1, rfl⟩ := row_form ha.out
  obtain ⟨A2, c2, rfl⟩ := row_form hb.out
  obtain ⟨n, hn⟩ : ∃ n, n = a.length := ⟨_, rfl⟩
  obtain ⟨m, hm⟩ : ∃ n, n = b.length := ⟨_, rfl⟩
  have HN := Lib.hid hn
  have HM := Lib.hid hm
  rw [← hn, ← hm]
  have hnb := la.out
  rw [← hn] at hnb
  clear hn hm
  by_cases hl : n = m
  · subst hl
    go_enter Try.func35, Try.ntmps35
    go_wp2_with fail
    go_loopw [13] (fun i wr => ∃ k : Nat, k ≤ n ∧ i = .int .i64 k ∧ Hid (a.take k = b.take k) ∧ Hid (Below w.heap.size w wr)) (fun i _ => n - (intOf i).toNat)
    case atStart => exact ⟨0, by omega, rfl, rfl, Below.refl _ _⟩
    case round =>
      obtain ⟨k, hk, rfl, HT, HB⟩ := hrel
      by_cases hkl : k < n
      · have hka : k < a.length := by rw [← HN.out]; exact hkl
        have hkb : k < b.length := by rw [← HM.out]; exact hkl
        have HRA : Hid (∀ W, Below w.heap.size w W → ∃ g, A1 = some ⟨g, 0, none⟩ ∧ W.rangeAt g (k * 65) (wrC a[k])) := fun W hW => by
          exact flat_range wrC 65 wrC_length (row_below ha.out hW) k hka
        have HRB : Hid (∀ W, Below w.heap.size w W → ∃ g, A2 = some ⟨g, 0, none⟩ ∧ W.rangeAt g (k * 65) (wrC b[k])) := fun W hW => by
          exact flat_range wrC 65 wrC_length (row_below hb.out hW) k hkb
        have hne := fun w => neq_wr (ka.out a[k] (List.getElem_mem hka)) (kb.out b[k] (List.getElem_mem hkb)) w
        obtain ⟨x, hx⟩ : ∃ y, y = a[k] := ⟨_, rfl⟩
        obtain ⟨y, hy⟩ : ∃ y, y = b[k] := ⟨_, rfl⟩
        rw [← hx] at HRA hne
        rw [← hy] at HRB hne
        have HX : Hid (a[k]? = some x) := by show _ = _; rw [hx, List.getElem?_eq_getElem hka]
        have HY : Hid (b[k]? = some y) := by show _ = _; rw [hy, List.getElem?_eq_getElem hkb]
        clear hx hy hka hkb
        obtain ⟨z, hz⟩ : ∃ z, z = !decide (x = y) := ⟨_, rfl⟩
        rw [← hz] at hne
        have HZ := Lib.hid hz
        clear hz
        obtain ⟨b1, rfl, r1⟩ := HRA.out wr HB.out
        obtain ⟨b2, rfl, r2⟩ := HRB.out wr HB.out
        clear HRA HRB
        have f1 : (0 : Int) ≤ (k : Int) := by omega
        have f2 : (k : Int) < (n : Int) := by omega
        go_wp2_with fail
        refine wp_region_noPanic ?_
        refine wp_region_held_drew (S := (fun W => W.rangeAt b1 (k * 65) (wrC x) ∧ W.rangeAt b2 (k * 65) (wrC y))) (by kernel_rfl) ⟨r1, r2⟩ (fun hHeld => ?_)
        refine wpAnyH_take (i := 0) (v := ?v0) rfl (by kernel_rfl) (by kernel_rfl) (by kernel_rfl) (fun _ _ _ h => h) (Or.inl ⟨by rfl, ?hy0⟩) (by assumption) ?rest0
        case hy0 =>
          intro w hSw
          (try dsimp only at hSw)
          go_simp
          try with_reducible rfl
        try simp only [Act.put, List.getElem_toArray, List.getElem_cons_zero, List.setIfInBounds_toArray, List.set_cons_zero, List.set_cons_succ]
        refine wpAnyH_take (i := 1) (v := ?v1) rfl (by kernel_rfl) (by kernel_rfl) (by kernel_rfl) (fun _ _ _ h => h) (Or.inl ⟨by rfl, ?hy1⟩) (by assumption) ?rest1
        case hy1 =>
          intro w hSw
          (try dsimp only at hSw)
          go_simp
          try with_reducible rfl
        try simp only [Act.put, List.getElem_toArray, List.getElem_cons_zero, List.getElem_cons_succ, List.setIfInBounds_toArray, List.set_cons_zero, List.set_cons_succ]
        refine wpAnyH_take (i := 2) (v := ?v2) rfl (by kernel_rfl) (by kernel_rfl) (by kernel_rfl) (fun _ _ _ h => h) (Or.inl ⟨by rfl, ?hy2⟩) (by assumption) ?rest2
        case hy2 =>
          intro w hSw
          (try dsimp only at hSw)
          go_simp
          try with_reducible rfl
        try simp only [Act.put, List.getElem_toArray, List.getElem_cons_zero, List.getElem_cons_succ, List.setIfInBounds_toArray, List.set_cons_zero, List.set_cons_succ]
        refine wpAnyH_take (i := 3) (v := .agg _) rfl (by kernel_rfl) (by kernel_rfl) (by kernel_rfl) (fun _ _ _ h => h) (yieldsIf_load_mid (by rfl) 66 (.tmp 18) rfl _ _ rfl (wrC x) _ (fun w hSw => hSw.1) Try.underlying66 rfl (by rw [sizeWr, wrC_length])) (by assumption) ?_
        try simp only [Act.put, List.getElem_toArray, List.getElem_cons_zero, List.getElem_cons_succ, List.setIfInBounds_toArray, List.set_cons_zero, List.set_cons_succ]
        refine wpAnyH_take (i := 4) (v := ?v4) rfl (by kernel_rfl) (by kernel_rfl) (by kernel_rfl) (fun _ _ _ h => h) (Or.inl ⟨by rfl, ?hy4⟩) (by assumption) ?rest4
        case hy4 =>
          intro w hSw
          (try dsimp only at hSw)
          go_simp
          try with_reducible rfl
        try simp only [Act.put, List.getElem_toArray, List.getElem_cons_zero, List.getElem_cons_succ, List.setIfInBounds_toArray, List.set_cons_zero, List.set_cons_succ]
        refine wpAnyH_take (i := 5) (v := ?v5) rfl (by kernel_rfl) (by kernel_rfl) (by kernel_rfl) (fun _ _ _ h => h) (Or.inl ⟨by rfl, ?hy5⟩) (by assumption) ?rest5
        case hy5 =>
          intro w hSw
          (try dsimp only at hSw)
          go_simp
          try with_reducible rfl
        try simp only [Act.put, List.getElem_toArray, List.getElem_cons_zero, List.getElem_cons_succ, List.setIfInBounds_toArray, List.set_cons_zero, List.set_cons_succ]
        refine wpAnyH_take (i := 6) (v := ?v6) rfl (by kernel_rfl) (by kernel_rfl) (by kernel_rfl) (fun _ _ _ h => h) (Or.inl ⟨by rfl, ?hy6⟩) (by assumption) ?rest6
        case hy6 =>
          intro w hSw
          (try dsimp only at hSw)
          go_simp
          try with_reducible rfl
        try simp only [Act.put, List.getElem_toArray, List.getElem_cons_zero, List.getElem_cons_succ, List.setIfInBounds_toArray, List.set_cons_zero, List.set_cons_succ]
        refine wpAnyH_take (i := 7) (v := .agg _) rfl (by kernel_rfl) (by kernel_rfl) (by kernel_rfl) (fun _ _ _ h => h) (yieldsIf_load_mid (by rfl) 66 (.tmp 22) rfl _ _ rfl (wrC y) _ (fun w hSw => hSw.2) Try.underlying66 rfl (by rw [sizeWr, wrC_length])) (by assumption) ?_
        try simp only [Act.put, List.getElem_toArray, List.getElem_cons_zero, List.getElem_cons_succ, List.setIfInBounds_toArray, List.set_cons_zero, List.set_cons_succ]
        refine wpAnyH_take (i := 8) (v := ?v8) rfl (by kernel_rfl) (by kernel_rfl) (by kernel_rfl) (fun _ _ _ h => h) (Or.inl ⟨by rfl, ?hy8⟩) (by assumption) ?rest8
        case hy8 =>
          intro w hSw
          (try dsimp only at hSw)
          go_simp
          try with_reducible rfl
        try simp only [Act.put, List.getElem_toArray, List.getElem_cons_zero, List.getElem_cons_succ, List.setIfInBounds_toArray, List.set_cons_zero, List.set_cons_succ]
        refine wpAnyH_done (by kernel_rfl) ?_ _
        refine NoPanic.normal ?_
        have HB2 : Hid (Below w.heap.size w wr.drew) := HB.out.trans ((Hv.begin wr).drew.below.mono HB.out.size)
        clear hHeld r1 r2 hne
        cases z
        · have HT2 : Hid (a.take (k + 1) = b.take (k + 1)) := by
            show _ = _
            have hxy : x = y := by have := HZ.out; simpa using this
            rw [List.take_add_one, List.take_add_one, HT.out, HX.out, HY.out, hxy]
          go_wp2
          go_roundw
          case rel => exact ⟨k + 1, by omega, rfl, HT2, HB2⟩
          case measure => simp [intOf]; omega
        · have HD : Hid (decide (a = b) = false) := by
            refine decide_eq_false fun e => ?_
            have h1 := HX.out
            rw [e, HY.out] at h1
            injection h1 with h1
            have := HZ.out
            simp [h1] at this
          go_wp2
          go_ret
          exact ⟨by (first | (rw [HD.out]; done) | (rw [HD.out]; rfl)), HB2.out⟩
      · obtain rfl : k = n := by omega
        have HD : Hid (decide (a = b) = true) := by
          refine decide_eq_true ?_
          have h1 := HT.out
          rw [List.take_of_length_le (by rw [← HN.out]; exact Nat.le_refl _), List.take_of_length_le (by rw [← HM.out]; exact Nat.le_refl _)] at h1
          exact h1
        go_wp2
        go_ret
        exact ⟨by (first | (rw [HD.out]; done) | (rw [HD.out]; rfl)), HB.out⟩
  · have HD : Hid (decide (a = b) = false) := decide_eq_false fun e => hl (by rw [HN.out, HM.out, e])
    have hl2 : ((n : Int) = (m : Int)) = False := by simp; omega
    go_enter Try.func35, Try.ntmps35
    go_wp2
    go_ret
    exact ⟨by (first | (rw [HD.out]; done) | (rw [HD.out]; rfl)), Below.refl _ _⟩
end Go.Proofs.Ytbfmgdkiigkioaa

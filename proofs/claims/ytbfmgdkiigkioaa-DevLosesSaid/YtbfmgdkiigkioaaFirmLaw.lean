/- The walk of the law's firm. -/
import Derived.Test.YtbfmgdkiigkioaaOpens
namespace Go.Proofs.Ytbfmgdkiigkioaa
open Go.RowKit Go.LawEnd

theorem firmAt_nat {D : Dv} {k : Nat} (hk : k < D.firm.length) : firmAt D (k : Int) = D.firm[k] ∧ there D (k : Int) = true := by
  have ht : there D (k : Int) = true := by
    unfold there
    rw [decide_eq_true (by omega), decide_eq_true (by omega)]
    rfl
  refine ⟨?_, ht⟩
  unfold firmAt
  rw [if_pos ht, Int.toNat_natCast, List.getElem?_eq_getElem hk]
  rfl
section
variable {T : Nat → Prop} {d : Nat} {D : Dv} {w : World}
set_option maxRecDepth 100000 in
set_option maxHeartbeats 6400000 in
theorem firmlaw_any {v : Value} (hrow : Hid (w.ownsRow 0 34 64 v D.firm.length (bls D.firm))) (hb : Hid (OkB D)) (hl : Hid (D.firm.length ≤ 5000)) (h : Hid (Sep [devA d D] w T)) :
    Calls Try.prog 24 #[.pointer (some ⟨d, 0, none⟩), v] w fun e w' => e = .returned (.bool true) ∧ Below w.heap.size w w' := by
  obtain ⟨A, c, rfl⟩ := row_form hrow.out
  obtain ⟨n, hn⟩ : ∃ n, n = D.firm.length := ⟨_, rfl⟩
  have HN := Lib.hid hn
  have hnb := hl.out
  rw [← hn] at hnb ⊢
  clear hn
  have hlb := laid_bl
  have hz := zero34
  have hml := markC_length
  go_enter Try.func24, Try.ntmps24
  go_wp2_with fail
  refine (size_any h).mono ?_
  rintro e w2 ⟨rfl, rfl⟩
  rw [← HN.out]
  go_wp2_with fail
  go_loopw [5] (fun i wr => ∃ k : Nat, k ≤ n ∧ i = .int .i64 k ∧ Hid (Below w.heap.size w wr)) (fun i _ => n - (intOf i).toNat)
  case atStart => exact ⟨0, by omega, rfl, Below.refl _ _⟩
  case round =>
    obtain ⟨k, hk, rfl, HB⟩ := hrel
    by_cases hkl : k < n
    · have hkd : k < D.firm.length := by rw [← HN.out]; exact hkl
      have HRA : Hid (∀ W, Below w.heap.size w W → ∃ g, A = some ⟨g, 0, none⟩ ∧ W.rangeAt g (k * 64) (markC D.firm[k])) := fun W hW =>
        flat_range markC 64 markC_length (row_below hrow.out hW) k hkd
      obtain ⟨hfa, htk⟩ := firmAt_nat hkd
      have hx := hb.out.1 D.firm[k] (List.getElem_mem hkd)
      have hne := fun w => neq_block hx hx w
      rw [show (!decide (D.firm[k] = D.firm[k])) = false by rw [decide_eq_true rfl]; rfl] at hne
      obtain ⟨x, hxd⟩ : ∃ x, x = D.firm[k] := ⟨_, rfl⟩
      rw [← hxd] at HRA hfa hne
      have HFA := Lib.hid hfa
      have HTK := Lib.hid htk
      clear hxd hfa htk hx hkd
      have hS : Sep [devA d D] wr T := h.out.keep fun b hb => HB.out.block b (h.out.lt hb)
      go_wp2_with fail
      refine (firm_yes (k : Int) HTK (Lib.hid hS)).mono ?_
      rintro e w3 ⟨rfl, h3⟩
      rw [HFA.out]
      have HB3 : Hid (Below w.heap.size w w3) := HB.out.trans (h3.mono HB.out.size)
      clear h3 hS HB
      go_upto_region 7 with (fail)
      obtain ⟨P6, hP⟩ : ∃ y, y = w3.heap.size := ⟨_, rfl⟩
      obtain ⟨W6, hW⟩ : ∃ y, y = w3.alloc (.cells (markC x).toArray 34) := ⟨_, rfl⟩
      have hq := (Hv.begin w3).alloc 34 (markC x).toArray
      rw [← hW, ← hP] at hq
      rw [← hW, ← hP]
      have HB6 : Hid (Below w.heap.size w W6) := HB3.out.trans (hq.below.mono HB3.out.size)
      have r1 : W6.rangeAt P6 0 (markC x) := blk_range (hq.blk (i := 0) rfl)
      clear hq hW hP HB3
      obtain ⟨g, rfl, r2⟩ := HRA.out W6 HB6.out
      have f1 : (0 : Int) ≤ (k : Int) := by omega
      have f2 : (k : Int) < (n : Int) := by omega
      refine wp_region_noPanic ?_
      refine wp_region_held_drew (S := (fun W => W.rangeAt P6 0 (markC x) ∧ W.rangeAt g (k * 64) (markC x))) (by kernel_rfl) ⟨r1, r2⟩ (fun hHeld => ?_)
      refine wpAnyH_take (i := 0) (v := .agg _) rfl (by kernel_rfl) (by kernel_rfl) (by kernel_rfl) (fun _ _ _ h => h) (yieldsIf_load_mid (by rfl) 34 (.tmp 6) rfl _ _ rfl (markC x) _ (fun w hSw => hSw.1) Try.underlying34 rfl (by rw [size34, markC_length])) (by assumption) ?_
      try simp only [Act.put, List.getElem_toArray, List.getElem_cons_zero, List.setIfInBounds_toArray, List.set_cons_zero, List.set_cons_succ]
      refine wpAnyH_take (i := 1) (v := ?v1) rfl (by kernel_rfl) (by kernel_rfl) (by kernel_rfl) (fun _ _ _ h => h) (Or.inl ⟨by rfl, ?hy1⟩) (by assumption) ?rest1
      case hy1 =>
        intro w hSw
        (try dsimp only at hSw)
        go_simp
        try with_reducible rfl
      try simp only [Act.put, List.getElem_toArray, List.getElem_cons_zero, List.getElem_cons_succ, List.setIfInBounds_toArray, List.set_cons_zero, List.set_cons_succ]
      refine wpAnyH_take (i := 2) (v := ?v2) rfl (by kernel_rfl) (by kernel_rfl) (by kernel_rfl) (fun _ _ _ h => h) (Or.inl ⟨by rfl, ?hy2⟩) (by assumption) ?rest2
      case hy2 =>
        intro w hSw
        (try dsimp only at hSw)
        go_simp
        try with_reducible rfl
      try simp only [Act.put, List.getElem_toArray, List.getElem_cons_zero, List.getElem_cons_succ, List.setIfInBounds_toArray, List.set_cons_zero, List.set_cons_succ]
      refine wpAnyH_take (i := 3) (v := ?v3) rfl (by kernel_rfl) (by kernel_rfl) (by kernel_rfl) (fun _ _ _ h => h) (Or.inl ⟨by rfl, ?hy3⟩) (by assumption) ?rest3
      case hy3 =>
        intro w hSw
        (try dsimp only at hSw)
        go_simp
        try with_reducible rfl
      try simp only [Act.put, List.getElem_toArray, List.getElem_cons_zero, List.getElem_cons_succ, List.setIfInBounds_toArray, List.set_cons_zero, List.set_cons_succ]
      refine wpAnyH_take (i := 4) (v := .agg _) rfl (by kernel_rfl) (by kernel_rfl) (by kernel_rfl) (fun _ _ _ h => h) (yieldsIf_load_mid (by rfl) 34 (.tmp 28) rfl _ _ rfl (markC x) _ (fun w hSw => hSw.2) Try.underlying34 rfl (by rw [size34, markC_length])) (by assumption) ?_
      try simp only [Act.put, List.getElem_toArray, List.getElem_cons_zero, List.getElem_cons_succ, List.setIfInBounds_toArray, List.set_cons_zero, List.set_cons_succ]
      refine wpAnyH_take (i := 5) (v := ?v5) rfl (by kernel_rfl) (by kernel_rfl) (by kernel_rfl) (fun _ _ _ h => h) (Or.inl ⟨by rfl, ?hy5⟩) (by assumption) ?rest5
      case hy5 =>
        intro w hSw
        (try dsimp only at hSw)
        go_simp
        try with_reducible rfl
      try simp only [Act.put, List.getElem_toArray, List.getElem_cons_zero, List.getElem_cons_succ, List.setIfInBounds_toArray, List.set_cons_zero, List.set_cons_succ]
      refine wpAnyH_take (i := 6) (v := ?v6) rfl (by kernel_rfl) (by kernel_rfl) (by kernel_rfl) (fun _ _ _ h => h) (Or.inl ⟨by rfl, ?hy6⟩) (by assumption) ?rest6
      case hy6 =>
        intro w hSw
        (try dsimp only at hSw)
        go_simp
        try with_reducible rfl
      try simp only [Act.put, List.getElem_toArray, List.getElem_cons_zero, List.getElem_cons_succ, List.setIfInBounds_toArray, List.set_cons_zero, List.set_cons_succ]
      refine wpAnyH_take (i := 7) (v := ?v7) rfl (by kernel_rfl) (by kernel_rfl) (by kernel_rfl) (fun _ _ _ h => h) (Or.inl ⟨by rfl, ?hy7⟩) (by assumption) ?rest7
      case hy7 =>
        intro w hSw
        (try dsimp only at hSw)
        go_simp
        try with_reducible rfl
      try simp only [Act.put, List.getElem_toArray, List.getElem_cons_zero, List.getElem_cons_succ, List.setIfInBounds_toArray, List.set_cons_zero, List.set_cons_succ]
      refine wpAnyH_take (i := 8) (v := ?v8) rfl (by kernel_rfl) (by kernel_rfl) (by kernel_rfl) (fun _ _ _ h => h) (Or.inl ⟨by rfl, ?hy8⟩) (by assumption) ?rest8
      case hy8 =>
        intro w hSw
        (try dsimp only at hSw)
        go_simp
        try with_reducible rfl
      try simp only [Act.put, List.getElem_toArray, List.getElem_cons_zero, List.getElem_cons_succ, List.setIfInBounds_toArray, List.set_cons_zero, List.set_cons_succ]
      refine wpAnyH_take (i := 9) (v := ?v9) rfl (by kernel_rfl) (by kernel_rfl) (by kernel_rfl) (fun _ _ _ h => h) (Or.inl ⟨by rfl, ?hy9⟩) (by assumption) ?rest9
      case hy9 =>
        intro w hSw
        (try dsimp only at hSw)
        go_simp
        try with_reducible rfl
      try simp only [Act.put, List.getElem_toArray, List.getElem_cons_zero, List.getElem_cons_succ, List.setIfInBounds_toArray, List.set_cons_zero, List.set_cons_succ]
      refine wpAnyH_done (by kernel_rfl) ?_ _
      refine NoPanic.normal ?_
      have HB7 : Hid (Below w.heap.size w W6.drew) := HB6.out.trans ((Hv.begin W6).drew.below.mono HB6.out.size)
      clear hHeld r1 r2 hne HRA
      go_wp2
      go_roundw
      case rel => exact ⟨k + 1, by omega, rfl, HB7⟩
      case measure => simp [intOf]; omega
    · obtain rfl : k = n := by omega
      go_wp2
      go_ret
      exact ⟨rfl, HB.out⟩
end
end Go.Proofs.Ytbfmgdkiigkioaa

/- The walk of Copy, where no plan was made. -/
import Derived.Test.YtbfmgdkiigkioaaClone
import Derived.Test.YtbfmgdkiigkioaaCall
namespace Go.Proofs.Ytbfmgdkiigkioaa
open Go.RowKit Go.LawEnd

section
variable {T : Nat → Prop} {d : Nat} {D : Dv} {w : World}
theorem np_plan {AP : Option Addr} {cP : Nat} {vO : Value} (h : Pn D vO (.slice AP D.plan.length cP)) (hnp : D.np = true) : AP = none ∧ D.plan.length = 0 ∧ cP = 0 := by
  have := h.2 hnp
  injection this with h1 h2 h3
  exact ⟨h1, h2, h3⟩
set_option maxRecDepth 100000 in
set_option maxHeartbeats 6400000 in
theorem copy_any (hf : Hid (D.firm ≠ [] ∧ D.firm.length ≤ 5000)) (HLE : Hid (D.opn.length ≤ 100000)) (hnp : Hid (D.np = true)) (h : Hid (Sep [devA d D] w T)) :
    Calls Try.prog 26 #[.pointer (some ⟨d, 0, none⟩)] w fun e w' => ∃ x : Nat, e = .returned (.pointer (some ⟨x, 0, none⟩)) ∧ Hv w No [devA x D] w' := by
  obtain ⟨AF, cF, AO, cO, AP, cP, k0, k1, k2, hv, hpn⟩ := dev_cells (Hv.start h.out)
  obtain ⟨rfl, hp0, rfl⟩ := np_plan hpn hnp.out
  rw [hp0] at k2
  have HP0 : Hid (D.plan = []) := List.eq_nil_of_length_eq_zero hp0
  have HPN := Lib.hid hpn
  have HROW : Hid (∀ W, Below w.heap.size w W → W.ownsRow 0 34 64 (.slice AF D.firm.length cF) D.firm.length (bls D.firm) ∧ W.ownsRow 0 66 65 (.slice AO D.opn.length cO) D.opn.length (wrs D.opn) ∧
      (W.cell? ⟨d, 0, none⟩ = some (.slice AF D.firm.length cF) ∧ W.cell? ⟨d, 1, none⟩ = some (.slice AO D.opn.length cO) ∧ W.cell? ⟨d, 2, none⟩ = some (.slice none 0 0))) := fun W hW => by
    obtain ⟨S', hs, _⟩ := hv
    have h2 := Hv.start (hs.keep fun b hb => hW.block b (Nat.lt_of_lt_of_le (hs.lt hb) (Nat.le_refl _)))
    have h3 := h2.blk (i := 0) rfl
    refine ⟨h2.row (i := 1) rfl, h2.row (i := 2) rfl, by simpa using h3.cell 0, by simpa using h3.cell 1, ?_⟩
    have := h3.cell 2
    rw [hp0] at this
    simpa using this
  clear hpn hp0 hv h
  obtain ⟨nF, hnF⟩ : ∃ m, m = D.firm.length := ⟨_, rfl⟩
  obtain ⟨nO, hnO⟩ : ∃ m, m = D.opn.length := ⟨_, rfl⟩
  have HNF := Lib.hid hnF
  have HNO := Lib.hid hnO
  rw [← hnF, ← hnO] at HROW
  rw [← hnO] at HPN
  rw [← hnF] at k0
  rw [← hnO] at k1
  clear hnF hnO
  have HX : Hid (Hv w No [] w.drew) := (Hv.begin w).drew
  go_enter Try.func26, Try.ntmps26
  go_wp2_with fail
  refine wp_region_noPanic ?_
  refine wp_region_held_drew (S := (fun W => W.cell? ⟨d, 0, none⟩ = some (.slice AF nF cF) ∧ W.cell? ⟨d, 1, none⟩ = some (.slice AO nO cO) ∧ W.cell? ⟨d, 2, none⟩ = some (.slice none 0 0))) (by kernel_rfl) ⟨k0, k1, k2⟩ (fun hHeld => ?_)
  clear k0 k1 k2
  refine wpAnyH_take (i := 0) (v := ?v0) rfl (by kernel_rfl) (by kernel_rfl) (by kernel_rfl) (fun _ _ _ h => h) (Or.inl ⟨by rfl, ?hy0⟩) (by assumption) ?rest0
  case hy0 =>
    intro w hSw
    (try dsimp only at hSw)
    go_simp
    try with_reducible rfl
  try simp only [Act.put, List.getElem_toArray, List.getElem_cons_zero, List.setIfInBounds_toArray, List.set_cons_zero, List.set_cons_succ]
  refine wpAnyH_take (i := 1) (v := ?v1) rfl (by kernel_rfl) (by kernel_rfl) (by kernel_rfl) (fun _ _ _ h => h) (Or.inl ⟨by rfl, ?hy1⟩) (by assumption) ?rest1
  case hy1 =>
    intro w hSw
    (try dsimp only at hSw)
    go_simp
    try with_reducible rfl
  try simp only [Act.put, List.getElem_toArray, List.getElem_cons_zero, List.getElem_cons_succ, List.setIfInBounds_toArray, List.set_cons_zero, List.set_cons_succ]
  refine wpAnyH_take (i := 2) (v := ?v2) rfl (by kernel_rfl) (by kernel_rfl) (by kernel_rfl) (fun _ _ _ h => h) (Or.inl ⟨by rfl, ?hy2⟩) (by assumption) ?rest2
  case hy2 =>
    intro w hSw
    (try dsimp only at hSw)
    go_simp
    try with_reducible rfl
  try simp only [Act.put, List.getElem_toArray, List.getElem_cons_zero, List.getElem_cons_succ, List.setIfInBounds_toArray, List.set_cons_zero, List.set_cons_succ]
  refine wpAnyH_take (i := 3) (v := ?v3) rfl (by kernel_rfl) (by kernel_rfl) (by kernel_rfl) (fun _ _ _ h => h) (Or.inl ⟨by rfl, ?hy3⟩) (by assumption) ?rest3
  case hy3 =>
    intro w hSw
    (try dsimp only at hSw)
    go_simp
    try with_reducible rfl
  try simp only [Act.put, List.getElem_toArray, List.getElem_cons_zero, List.getElem_cons_succ, List.setIfInBounds_toArray, List.set_cons_zero, List.set_cons_succ]
  refine wpAnyH_take (i := 5) (v := ?v5) rfl (by kernel_rfl) (by kernel_rfl) (by kernel_rfl) (fun _ _ _ h => h) (Or.inl ⟨by rfl, ?hy5⟩) (by assumption) ?rest5
  case hy5 =>
    intro w hSw
    (try dsimp only at hSw)
    go_simp
    try with_reducible rfl
  try simp only [Act.put, List.getElem_toArray, List.getElem_cons_zero, List.getElem_cons_succ, List.setIfInBounds_toArray, List.set_cons_zero, List.set_cons_succ]
  refine wpAnyH_take (i := 6) (v := ?v6) rfl (by kernel_rfl) (by kernel_rfl) (by kernel_rfl) (fun _ _ _ h => h) (Or.inl ⟨by rfl, ?hy6⟩) (by assumption) ?rest6
  case hy6 =>
    intro w hSw
    (try dsimp only at hSw)
    go_simp
    try with_reducible rfl
  try simp only [Act.put, List.getElem_toArray, List.getElem_cons_zero, List.getElem_cons_succ, List.setIfInBounds_toArray, List.set_cons_zero, List.set_cons_succ]
  refine wpAnyH_take (i := 7) (v := ?v7) rfl (by kernel_rfl) (by kernel_rfl) (by kernel_rfl) (fun _ _ _ h => h) (Or.inl ⟨by rfl, ?hy7⟩) (by assumption) ?rest7
  case hy7 =>
    intro w hSw
    (try dsimp only at hSw)
    go_simp
    try with_reducible rfl
  try simp only [Act.put, List.getElem_toArray, List.getElem_cons_zero, List.getElem_cons_succ, List.setIfInBounds_toArray, List.set_cons_zero, List.set_cons_succ]
  refine wpAnyH_take (i := 8) (v := ?v8) rfl (by kernel_rfl) (by kernel_rfl) (by kernel_rfl) (fun _ _ _ h => h) (Or.inl ⟨by rfl, ?hy8⟩) (by assumption) ?rest8
  case hy8 =>
    intro w hSw
    (try dsimp only at hSw)
    go_simp
    try with_reducible rfl
  try simp only [Act.put, List.getElem_toArray, List.getElem_cons_zero, List.getElem_cons_succ, List.setIfInBounds_toArray, List.set_cons_zero, List.set_cons_succ]
  refine wpAnyH_take (i := 10) (v := ?v10) rfl (by kernel_rfl) (by kernel_rfl) (by kernel_rfl) (fun _ _ _ h => h) (Or.inl ⟨by rfl, ?hy10⟩) (by assumption) ?rest10
  case hy10 =>
    intro w hSw
    (try dsimp only at hSw)
    go_simp
    try with_reducible rfl
  try simp only [Act.put, List.getElem_toArray, List.getElem_cons_zero, List.getElem_cons_succ, List.setIfInBounds_toArray, List.set_cons_zero, List.set_cons_succ]
  refine wpAnyH_take (i := 11) (v := ?v11) rfl (by kernel_rfl) (by kernel_rfl) (by kernel_rfl) (fun _ _ _ h => h) (Or.inl ⟨by rfl, ?hy11⟩) (by assumption) ?rest11
  case hy11 =>
    intro w hSw
    (try dsimp only at hSw)
    go_simp
    try with_reducible rfl
  try simp only [Act.put, List.getElem_toArray, List.getElem_cons_zero, List.getElem_cons_succ, List.setIfInBounds_toArray, List.set_cons_zero, List.set_cons_succ]
  refine wpAnyH_take (i := 12) (v := ?v12) rfl (by kernel_rfl) (by kernel_rfl) (by kernel_rfl) (fun _ _ _ h => h) (Or.inl ⟨by rfl, ?hy12⟩) (by assumption) ?rest12
  case hy12 =>
    intro w hSw
    (try dsimp only at hSw)
    go_simp
    try with_reducible rfl
  try simp only [Act.put, List.getElem_toArray, List.getElem_cons_zero, List.getElem_cons_succ, List.setIfInBounds_toArray, List.set_cons_zero, List.set_cons_succ]
  refine wpAnyH_take (i := 13) (v := ?v13) rfl (by kernel_rfl) (by kernel_rfl) (by kernel_rfl) (fun _ _ _ h => h) (Or.inl ⟨by rfl, ?hy13⟩) (by assumption) ?rest13
  case hy13 =>
    intro w hSw
    (try dsimp only at hSw)
    go_simp
    try with_reducible rfl
  try simp only [Act.put, List.getElem_toArray, List.getElem_cons_zero, List.getElem_cons_succ, List.setIfInBounds_toArray, List.set_cons_zero, List.set_cons_succ]
  refine wpAnyH_ready (rs := [4]) (by kernel_rfl) (by simp) ?_
  refine AllReadyH.cons rfl (fun K hK => ?_) AllReadyH.nil
  go_simp
  have hr := (HROW.out _ HX.out.below).1
  refine (clone_bl D.firm _ (by rw [← HNF.out]; exact hr) hf.out.1 hf.out.2).mono ?_
  rintro e W1 ⟨v1, rfl, h1⟩
  obtain ⟨A1, c1, rfl⟩ := row_form (h1.row (i := 0) rfl)
  have HX1 : Hid (Hv w No [blA (.slice A1 D.firm.length c1) D.firm] W1) := HX.out.add h1
  clear h1 hr HX
  refine hK.out _ _ (HROW.out _ HX1.out.below).2.2 (fun hHeld1 => ?_)
  clear hK K
  try simp only [Act.put, List.getElem_toArray, List.getElem_cons_zero, List.getElem_cons_succ, List.setIfInBounds_toArray, List.set_cons_zero, List.set_cons_succ]
  refine wpAnyH_ready (rs := [9]) (by kernel_rfl) (by simp) ?_
  refine AllReadyH.cons rfl (fun K hK => ?_) AllReadyH.nil
  go_simp
  have hr := (HROW.out _ HX1.out.below).2.1
  refine (clone_wr D.opn _ (by rw [← HNO.out]; exact hr) (fun e => HPN.out.1 e) HLE.out).mono ?_
  rintro e W2 ⟨v2, rfl, h2, hn2⟩
  obtain ⟨A2, c2, rfl⟩ := row_form (h2.row (i := 0) rfl)
  have HX2 : Hid (Hv w No [wrA (.slice A2 D.opn.length c2) D.opn, blA (.slice A1 D.firm.length c1) D.firm] W2) := HX1.out.add h2
  have HN2 := Lib.hid hn2
  clear h2 hr HX1 hn2
  refine hK.out _ _ (HROW.out _ HX2.out.below).2.2 (fun hHeld2 => ?_)
  clear hK K
  try simp only [Act.put, List.getElem_toArray, List.getElem_cons_zero, List.getElem_cons_succ, List.setIfInBounds_toArray, List.set_cons_zero, List.set_cons_succ]
  refine wpAnyH_ready (rs := [14]) (by kernel_rfl) (by simp) ?_
  refine AllReadyH.cons rfl (fun K hK => ?_) AllReadyH.nil
  go_simp
  refine (clone_int _).mono ?_
  rintro e W3 ⟨rfl, rfl⟩
  refine hK.out _ _ (HROW.out _ HX2.out.below).2.2 (fun hHeld3 => ?_)
  clear hK K
  try simp only [Act.put, List.getElem_toArray, List.getElem_cons_zero, List.getElem_cons_succ, List.setIfInBounds_toArray, List.set_cons_zero, List.set_cons_succ]
  refine wpAnyH_take (i := 15) (v := ?v15) rfl (by kernel_rfl) (by kernel_rfl) (by kernel_rfl) (fun _ _ _ h => h) (Or.inl ⟨by rfl, ?hy15⟩) (by assumption) ?rest15
  case hy15 =>
    intro w hSw
    (try dsimp only at hSw)
    go_simp
    try with_reducible rfl
  try simp only [Act.put, List.getElem_toArray, List.getElem_cons_zero, List.getElem_cons_succ, List.setIfInBounds_toArray, List.set_cons_zero, List.set_cons_succ]
  refine wpAnyH_ready (rs := [16]) (by kernel_rfl) (by simp) ?_
  refine AllReadyH.cons rfl (fun K hK => ?_) AllReadyH.nil
  go_simp
  have h4 := hv_nilWin (HX2.out.alloc 62 #[.slice A1 D.firm.length c1, .slice A2 D.opn.length c2, .slice none 0 0]) 3
  obtain ⟨x, hx⟩ : ∃ y, y = W3.heap.size := ⟨_, rfl⟩
  obtain ⟨W4, hW4⟩ : ∃ y, y = W3.alloc (.cells #[.slice A1 D.firm.length c1, .slice A2 D.opn.length c2, .slice none 0 0] 62) := ⟨_, rfl⟩
  rw [← hW4, ← hx] at h4
  rw [← hW4, ← hx]
  have HX4 : Hid (Hv w No [devA x D] W4) := by
    have e : plA (.slice none 0 0) D.plan = winA (.slice none 0 0) 3 0 [] := by rw [HP0.out]; rfl
    refine dev_close (R := []) (vF := .slice A1 D.firm.length c1) (vO := .slice A2 D.opn.length c2) (vP := .slice none 0 0) ?_ ⟨fun e => HN2.out e, fun _ => rfl⟩
    rw [e]
    exact h4.pick [1, 3, 2, 0]
  clear h4 hW4 hx
  refine hK.out _ _ (HROW.out _ HX4.out.below).2.2 (fun hHeld4 => ?_)
  clear hK K
  try simp only [Act.put, List.getElem_toArray, List.getElem_cons_zero, List.getElem_cons_succ, List.setIfInBounds_toArray, List.set_cons_zero, List.set_cons_succ]
  refine wpAnyH_take (i := 17) (v := ?v17) rfl (by kernel_rfl) (by kernel_rfl) (by kernel_rfl) (fun _ _ _ h => h) (Or.inl ⟨by rfl, ?hy17⟩) (by assumption) ?rest17
  case hy17 =>
    intro w hSw
    (try dsimp only at hSw)
    go_simp
    try with_reducible rfl
  try simp only [Act.put, List.getElem_toArray, List.getElem_cons_zero, List.getElem_cons_succ, List.setIfInBounds_toArray, List.set_cons_zero, List.set_cons_succ]
  refine wpAnyH_done (by kernel_rfl) ?_ _
  refine NoPanic.normal ?_
  clear hHeld hHeld1 hHeld2 hHeld3 hHeld4 HROW
  go_wp2
  go_ret
  exact ⟨_, rfl, HX4.out⟩
end
end Go.Proofs.Ytbfmgdkiigkioaa

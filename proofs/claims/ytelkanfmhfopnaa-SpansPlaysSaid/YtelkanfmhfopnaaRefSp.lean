/- The document's sets: Spans. -/
import Derived.Test.YtelkanfmhfopnaaRef
namespace Go.Proofs.Ytelkanfmhfopnaa
open Go.RowKit Go.LawEnd

def spF (f : Int → Bool) : Nat → List Sp
  | 0 => []
  | k + 1 => if f k = true then putF (spF f k) ((k : Int), 1) else spF f k
theorem spF_ok (f : Int → Bool) : ∀ k : Nat, k ≤ 200 → OkS (spF f k) ∧ (∀ n, mem (spF f k) n ↔ (0 ≤ n ∧ n < k) ∧ f n = true) ∧ ∀ y ∈ spF f k, en y ≤ k
  | 0, _ => ⟨OkS.nil, fun n => ⟨fun h => absurd h mem_nil, fun h => by omega⟩, fun y hy => by cases hy⟩
  | k + 1, hk => by
    obtain ⟨h1, h2, h3⟩ := spF_ok f k (by omega)
    unfold spF
    by_cases hf : f k = true
    · rw [if_pos hf]
      obtain ⟨p1, p2, p3⟩ := put_ok (x := ((k : Int), 1)) h1 ⟨by simp only []; omega, by simp, by unfold en; simp only []; omega⟩ h3
      refine ⟨p1, fun n => ?_, fun y hy => ?_⟩
      · rw [p2, h2]
        unfold inn en
        simp only []
        constructor
        · rintro (⟨h, h'⟩ | h)
          · exact ⟨by omega, h'⟩
          · obtain rfl : n = k := by omega
            exact ⟨by omega, hf⟩
        · rintro ⟨h, h'⟩
          by_cases hn : n < k
          · exact .inl ⟨by omega, h'⟩
          · exact .inr (by omega)
      · have := p3 y hy
        unfold en at *
        simp only [] at this
        omega
    · rw [if_neg hf]
      refine ⟨h1, fun n => ?_, fun y hy => ?_⟩
      · rw [h2]
        constructor
        · rintro ⟨h, h'⟩; exact ⟨by omega, h'⟩
        · rintro ⟨h, h'⟩
          refine ⟨⟨h.1, ?_⟩, h'⟩
          by_cases hn : n = k
          · subst hn; exact absurd h' hf
          · omega
      · have := h3 y hy
        omega
theorem spF_len (f : Int → Bool) (k : Nat) (hk : k ≤ 200) : (spF f k).length ≤ 1048576 := (spF_ok f k hk).1.len
theorem putF_form (l : List Sp) (x : Sp) (h : 0 < x.2) : ∃ l' y, putF l x = l' ++ [y] ∧ en y = en x := by
  rcases List.eq_nil_or_concat l with rfl | ⟨l', y, rfl⟩
  · rw [putF_nil, if_neg (by omega)]
    exact ⟨[], x, rfl, rfl⟩
  · rw [List.concat_eq_append, putF_last, if_neg (by omega)]
    by_cases he : en y = x.1
    · rw [if_pos he]
      refine ⟨l', _, rfl, ?_⟩
      unfold en at *
      simp only []
      omega
    · rw [if_neg he]
      exact ⟨_, x, rfl, rfl⟩
theorem spF_last {f : Int → Bool} {j : Nat} (h : f j = true) : ∃ l' y, spF f (j + 1) = l' ++ [y] ∧ en y = j + 1 := by
  unfold spF
  rw [if_pos h]
  exact putF_form _ _ (by simp)
theorem spF_more {f : Int → Bool} {j : Nat} {l' : List Sp} {y : Sp} (h : f (j + 1 : Nat) = true) (e : spF f (j + 1) = l' ++ [y]) (he : en y = j + 1) : spF f (j + 1 + 1) = l' ++ [(y.1, y.2 + 1)] := by
  rw [show spF f (j + 1 + 1) = if f ((j + 1 : Nat) : Int) = true then putF (spF f (j + 1)) (((j + 1 : Nat) : Int), 1) else spF f (j + 1) from rfl, if_pos h, e, putF_last, if_neg (by simp), if_pos (by rw [he]; simp)]
theorem spF_new {f : Int → Bool} {k : Nat} (hk : k ≤ 200) (h : f k = true) (hn : ∀ j : Nat, k = j + 1 → f j = false) : spF f (k + 1) = spF f k ++ [((k : Int), 1)] := by
  rw [show spF f (k + 1) = if f (k : Int) = true then putF (spF f k) ((k : Int), 1) else spF f k from rfl, if_pos h]
  obtain ⟨h1, h2, h3⟩ := spF_ok f k hk
  rcases List.eq_nil_or_concat (spF f k) with e | ⟨l', y, e⟩
  · rw [e, putF_nil, if_neg (by simp)]; rfl
  · rw [List.concat_eq_append] at e
    rw [e] at h1 h2
    rw [e, putF_last, if_neg (by simp), if_neg]
    intro he
    simp only [] at he
    have hv := h1.val y (by simp)
    have hm := (h2 (k - 1)).1 ⟨y, by simp, by unfold en at *; omega, by omega⟩
    have hk0 : 0 < k := by omega
    have := hn (k - 1) (by omega)
    rw [show ((k - 1 : Nat) : Int) = (k : Int) - 1 by omega] at this
    rw [this] at hm
    exact absurd hm.2 (by simp)

set_option maxRecDepth 100000 in
set_option maxHeartbeats 3200000 in
theorem refspans_any {T : Nat → Prop} (r : Nat) (f : Int → Bool) (w : World) (h : Hid (Sep [refA r f] w T)) :
    Calls Try.prog 19 #[.pointer (some ⟨r, 0, none⟩)] w fun e w' => ∃ v, e = .returned v ∧ Hv w No [rsA v (spF f 200)] w' := by
  have HC : Hid (∀ (W : World), Below w.heap.size w W → ∀ k : Nat, k < 200 → W.cell? ⟨r, k, none⟩ = some (.bool (f k))) := fun W hb k hk => ref_cell ((Hv.start h.out).still hb) (i := 0) rfl k hk
  go_enter Try.func19, Try.ntmps19
  go_wp2_with fail
  clear h
  go_loopw [3, 4] (fun v i wr => ∃ k : Nat, k ≤ 200 ∧ i = .int .i64 k ∧ Hid (Hv w No [rsA v (spF f k)] wr)) (fun _ i _ => 200 - (intOf i).toNat)
  case atStart => exact ⟨0, by omega, rfl, (Hv.begin w).nilRow 26 2⟩
  case round =>
    obtain ⟨k, hk, rfl, HV⟩ := hrel
    by_cases hkl : k < 200
    · have c0 := HC.out _ HV.out.below k hkl
      cases hv : f k
      · have HS : Hid (spF f (k + 1) = spF f k) := by show _ = _; rw [show spF f (k + 1) = if f (k : Int) = true then putF (spF f k) ((k : Int), 1) else spF f k from rfl, hv]; simp
        rw [hv] at c0
        clear hv
        go_wp2_with fail
        go_roundw
        case rel => exact ⟨k + 1, by omega, by go_num, by rw [HS.out]; exact HV⟩
        case measure => simp [intOf]; omega
      · rw [hv] at c0
        have happ : (∀ j : Nat, k = j + 1 → f j = false) → ∀ v, Hid (Hv w No [rsA v (spF f k)] wr) → True := fun _ _ _ => trivial
        clear happ
        by_cases hj : ∃ j : Nat, k = j + 1 ∧ f j = true
        · obtain ⟨j, rfl, hfj⟩ := hj
          have c1 := HC.out _ HV.out.below j (by omega)
          rw [hfj] at c1
          obtain ⟨l', y, e, he⟩ := spF_last hfj
          have HS := Lib.hid (spF_more hv e he)
          obtain ⟨m, hm⟩ : ∃ m, m = l'.length := ⟨_, rfl⟩
          have hm1 : (l' ++ [y]).length = m + 1 := by rw [hm]; simp
          have hml : m + 1 ≤ 1048576 := by rw [← hm1, ← e]; exact spF_len f _ hk
          have hyv := (spF_ok f _ hk).1.val y (by rw [e]; simp)
          rw [e] at HV
          obtain ⟨y0, y1⟩ := y
          unfold en at hyv
          simp only [] at hyv
          obtain ⟨hy0, hy1, hy2⟩ := hyv
          have hrow := HV.out.row (i := 0) rfl
          rw [hm1] at hrow
          obtain ⟨g, cap, e2, _⟩ := hrow.form (by omega)
          subst e2
          have hg := sps_get (l' ++ [(y0, y1)]) m (by omega)
          have hgm : (l' ++ [(y0, y1)])[m]'(by omega) = (y0, y1) := by simp [hm]
          rw [hgm] at hg
          have k0 : wr.cell? ⟨g, m * 2 + 1, none⟩ = some (.int .i64 y1) := by rw [hrow.cellAt _ (by omega)]; exact hg.2
          have k1 := hrow.frozenAt (m * 2 + 1)
          have HN : Hid (m = l'.length) := hm
          have HN1 := Lib.hid hm1
          have HFJ := Lib.hid hfj
          clear hm hm1 e he hrow hg hgm hv hfj
          have e7 : IntKind.i64.wrap ((m : Int) + 1 - 1) = m := by rw [Int.add_sub_cancel]; exact IntWalk.i64_in _ (by omega)
          have e8 : IntKind.i64.wrap (m : Int) = m := IntWalk.i64_in _ (by omega)
          have e9 : IntKind.i64.wrap (y1 + 1) = y1 + 1 := IntWalk.i64_in _ (by omega)
          have ea : IntKind.i64.wrap ((j : Int) + 1 - 1) = j := by rw [Int.add_sub_cancel]; exact IntWalk.i64_in _ (by omega)
          have eb : IntKind.i64.wrap (j : Int) = j := IntWalk.i64_in _ (by omega)
          have b1 : decide ((0 : Int) < (j : Int) + 1) = true := decide_eq_true (by omega)
          have f1 : (0 : Int) ≤ (m : Int) := by omega
          have f2 : (m : Int) < (m : Int) + 1 := by omega
          have f3 : m < m + 1 := by omega
          have f4 : ¬ (m : Int) < 0 := by omega
          go_wp2_with fail
          go_roundw
          case rel =>
            refine ⟨j + 1 + 1, by omega, by go_num, ?_⟩
            rw [HS.out]
            have hv0 := HV.out
            unfold rsA at hv0
            rw [HN1.out] at hv0
            have hz := hv0.rowSet (m * 2 + 1) (.int .i64 (y1 + 1))
            have hs := sps_last l' (y0, y1) (y1 + 1)
            rw [← HN.out] at hs
            rw [hs] at hz
            have hl : (l' ++ [(y0, y1 + 1)]).length = m + 1 := by rw [List.length_append, ← HN.out]; rfl
            show Hv w No [rsA (.slice (some ⟨g, 0, none⟩) (m + 1) cap) (l' ++ [(y0, y1 + 1)])] _
            rw [show rsA (.slice (some ⟨g, 0, none⟩) (m + 1) cap) (l' ++ [(y0, y1 + 1)]) = rowA (.slice (some ⟨g, 0, none⟩) (m + 1) cap) 26 2 (m + 1) (sps (l' ++ [(y0, y1 + 1)])) by unfold rsA; rw [hl]]
            exact hz
          case measure => simp [intOf]; omega
        · have HS : Hid (spF f (k + 1) = spF f k ++ [((k : Int), 1)]) := spF_new hk hv fun j hj2 => by
            cases hfj : f j
            · rfl
            · exact absurd ⟨j, hj2, hfj⟩ hj
          have HLN : Hid ((spF f k).length ≤ 4000000) := by have := spF_len f k hk; show _ ≤ _; omega
          obtain ⟨A, c, e2, _⟩ := SpArg.of_own (HV.out.row (i := 0) rfl)
          subst e2
          obtain ⟨M, hM⟩ : ∃ M, M = spF f k := ⟨_, rfl⟩
          rw [← hM] at HV HS HLN ⊢
          clear hM
          have HJ := Lib.hid hj
          clear hj hv
          rcases Nat.eq_zero_or_pos k with rfl | hk0
          · obtain ⟨g2, cap2, W7, hE, hH⟩ := app_span HV.out 26 HLN.out (0, 1)
            have HE := Lib.hid hE
            have HH := Lib.hid hH
            clear hE hH
            go_wp2_with (first | (at_builtin; refine wpList_append_run rfl (.tmp 35) (.tmp 38) _ rfl HE.out ?_) | fail)
            go_roundw
            case rel => exact ⟨1, by omega, by go_num, by rw [HS.out]; exact HH⟩
            case measure => simp [intOf]
          · obtain ⟨j, rfl⟩ : ∃ j, k = j + 1 := ⟨k - 1, by omega⟩
            have c1 := HC.out _ HV.out.below j (by omega)
            rw [show f (j : Int) = false by
              cases hfj : f j
              · rfl
              · exact absurd ⟨j, rfl, hfj⟩ HJ.out] at c1
            have ea : IntKind.i64.wrap ((j : Int) + 1 - 1) = j := by rw [Int.add_sub_cancel]; exact IntWalk.i64_in _ (by omega)
            have eb : IntKind.i64.wrap (j : Int) = j := IntWalk.i64_in _ (by omega)
            have b1 : decide ((0 : Int) < (j : Int) + 1) = true := decide_eq_true (by omega)
            obtain ⟨g2, cap2, W7, hE, hH⟩ := app_span HV.out 26 HLN.out ((j : Int) + 1, 1)
            have HE := Lib.hid hE
            have HH := Lib.hid hH
            clear hE hH
            go_wp2_with (first | (at_builtin; refine wpList_append_run rfl (.tmp 35) (.tmp 38) _ rfl HE.out ?_) | fail)
            go_roundw
            case rel => exact ⟨j + 1 + 1, by omega, by go_num, by rw [HS.out]; exact HH⟩
            case measure => simp [intOf]; omega
    · obtain rfl : k = 200 := by omega
      go_wp2
      go_ret
      exact ⟨_, rfl, HV.out⟩
end Go.Proofs.Ytelkanfmhfopnaa

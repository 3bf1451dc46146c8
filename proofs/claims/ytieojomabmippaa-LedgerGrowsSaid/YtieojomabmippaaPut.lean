/- has, Put, Scrub. -/
import Derived.Test.YtieojomabmippaaLg
import Derived.WalkArith
namespace Go.Proofs.Ytieojomabmippaa
open Go.RowKit Go.LawEnd

theorem hv_weak {w0 w : World} {S : Nat → Prop} {A A' : Atom} {R : List Atom} (h : Hv w0 S (A :: R) w) (hA : ∀ W T, A.P W T → A'.P W T) : Hv w0 S (A' :: R) w := by
  obtain ⟨T, ⟨S1, S2, h1, h2, h3⟩, hf⟩ := h
  exact ⟨T, ⟨S1, S2, hA _ _ h1, h2, h3⟩, hf⟩
theorem sets_mono {w : World} {T : Nat → Prop} {m m' : Nat} {bs : List Nat} {Ss : List (List Int)} (hm : m ≤ m') (h : (setsA m bs Ss).P w T) : (setsA m' bs Ss).P w T :=
  ⟨⟨h.1.1, h.1.2.1, fun i b l hb hl => (h.1.2.2 i b l hb hl).mono hm⟩, h.2⟩
theorem lg_mono {w0 w : World} {S : Nat → Prop} {R : List Atom} {x m m' : Nat} {L : Lg} (hm : m ≤ m') (h : Hv w0 S (lgA x m L :: R) w) : Hv w0 S (lgA x m' L :: R) w := by
  refine hv_weak h fun W T ⟨a, S1, S2, h1, ⟨S3, S4, h2, ⟨S5, S6, h3, h4⟩, h5⟩, h6⟩ => ?_
  exact ⟨a, S1, S2, h1, ⟨S3, S4, h2, ⟨S5, S6, sets_mono hm h3, h4⟩, h5⟩, h6⟩
theorem has_any {w : World} {b m : Nat} {l : List Int} (h : SetW w b m l) {x : Int} (hx : (Lit.int .i64 x).wf = true) :
    Calls Try.prog 28 #[.map (some b), .int .i64 x] w fun e w' => e = .returned (.bool (decide (x ∈ l))) ∧ Below w.heap.size w w' := by
  have E := SetAt.run_look (t := 65) h keyLaw Try.underlying65 Try.underlying3 zeroUnit hx
  have hz := zeroUnit
  go_enter Try.func28, Try.ntmps28
  go_wp2
  go_ret
  exact ⟨rfl, (Below.refl _ w).alloc (Nat.le_refl _) _⟩
def putL (blocks : Int) (l : List Int) (b : Int) : Option (List Int) :=
  if b ≠ -1 ∧ (b < 0 ∨ blocks ≤ b) then none else some (if b = -1 then [-1] else if (-1 : Int) ∈ l then l else ins b l)
section
variable {T : Nat → Prop} {x m : Nat} {L : Lg} {w : World} {R : List Atom}
theorem put_nil (s b : Int) (w : World) : Calls Try.prog 11 #[.pointer none, .int .i64 s, .int .i64 b] w fun e w' => e = .returned (.int .i64 2) ∧ w = w' := by
  go_enter Try.func11, Try.ntmps11
  go_wp2_with fail
  refine (of_nil s w).mono ?_
  rintro e w2 ⟨rfl, rfl⟩
  go_wp2
  go_ret
  exact ⟨rfl, rfl⟩
theorem put_no (s b : Int) (hs : Hid (¬ (0 ≤ s ∧ s < (L.sets.length : Int)))) (h : Hid (Sep (lgA x m L :: R) w T)) : Calls Try.prog 11 #[.pointer (some ⟨x, 0, none⟩), .int .i64 s, .int .i64 b] w fun e w' => e = .returned (.int .i64 10) ∧ w = w' := by
  go_enter Try.func11, Try.ntmps11
  go_wp2_with fail
  refine (of_no s hs h).mono ?_
  rintro e w2 ⟨rfl, rfl⟩
  go_wp2
  go_ret
  exact ⟨rfl, rfl⟩
/-- the slot's owners behind Put -/
def putS (L : Lg) (i : Nat) (l : List Int) : Lg := { L with sets := L.sets.set i l }
theorem putS_same {i : Nat} {l : List Int} (h : L.sets[i]? = some l) : putS L i l = L := by
  cases L
  unfold putS
  simp only [Lg.mk.injEq, true_and]
  refine List.ext_getElem? fun j => ?_
  by_cases hij : i = j
  · subst hij
    have := (List.getElem?_eq_some_iff.1 h).1
    rw [List.getElem?_set_self (by simpa using this)]
    exact h.symm
  · rw [List.getElem?_set_ne hij]
set_option maxRecDepth 100000 in
set_option maxHeartbeats 3200000 in
theorem put_err (i : Nat) (l : List Int) (hl : Hid (L.sets[i]? = some l)) (b : Int) (hp : Hid (b ≠ -1 ∧ (b < 0 ∨ L.blocks ≤ b))) (h : Hid (Sep (lgA x m L :: R) w T)) :
    Calls Try.prog 11 #[.pointer (some ⟨x, 0, none⟩), .int .i64 (i : Int), .int .i64 b] w fun e w' => e = .returned (.int .i64 10) ∧ w = w' := by
  obtain ⟨A, c, bs, k0, k1, k2, _⟩ := lg_cells (Hv.start h.out)
  obtain ⟨hi, _⟩ := List.getElem?_eq_some_iff.1 hl.out
  obtain ⟨g, sb, rfl, k3, _, _⟩ := k2 i hi
  have b1 : (b == -1) = false := by rw [beq_eq_false_iff_ne]; exact hp.out.1
  have hb1 : ¬ b = -1 := hp.out.1
  have hp2 := hp.out.2
  obtain ⟨blk, hblk⟩ : ∃ y, y = L.blocks := ⟨_, rfl⟩
  rw [← hblk] at k0 hp2
  clear hblk hp k2 hl h
  by_cases h0 : b < 0
  · have d1 : decide (b < 0) = true := decide_eq_true h0
    clear hp2 h0
    go_enter Try.func11, Try.ntmps11
    go_wp2_with fail
    refine (of_yes i hi k1 k3).mono ?_
    rintro e w2 ⟨rfl, rfl⟩
    clear k1 k3
    go_wp2
    go_ret
    exact ⟨rfl, rfl⟩
  · have d1 : decide (b < 0) = false := decide_eq_false h0
    have d2 : decide (blk ≤ b) = true := decide_eq_true (by omega)
    clear hp2 h0
    go_enter Try.func11, Try.ntmps11
    go_wp2_with fail
    refine (of_yes i hi k1 k3).mono ?_
    rintro e w2 ⟨rfl, rfl⟩
    clear k1 k3
    go_wp2
    go_ret
    exact ⟨rfl, rfl⟩
set_option maxRecDepth 100000 in
set_option maxHeartbeats 3200000 in
theorem put_any (i : Nat) (l : List Int) (hl : Hid (L.sets[i]? = some l)) (hm : Hid (m ≤ 1000000)) (h : Hid (Sep (lgA x m L :: R) w T)) :
    Calls Try.prog 11 #[.pointer (some ⟨x, 0, none⟩), .int .i64 (i : Int), .int .i64 (-1)] w fun e w' => e = .returned (.int .i64 0) ∧ Hv w T (lgA x (m + 1) (putS L i [-1]) :: R) w' := by
  obtain ⟨A, c, bs, k0, k1, k2, hv⟩ := lg_cells (Hv.start h.out)
  obtain ⟨hi, hl2⟩ := List.getElem?_eq_some_iff.1 hl.out
  obtain ⟨g, sb, rfl, k3, hb, hs⟩ := k2 i hi
  obtain ⟨w1, E1, hs1, hc1⟩ := SetAt.run_clear (t := 65) hs Try.underlying65
  have h1 : Hv w T (setsA m bs (L.sets.set i []) :: blkA x 63 #[.int .i64 L.blocks, .slice (some ⟨g, 0, none⟩) L.sets.length c] :: rowA (.slice (some ⟨g, 0, none⟩) L.sets.length c) 65 1 L.sets.length (bs.map mv) :: R) w1 :=
    sets_turn (hv.perm (List.perm_middle (l₁ := [blkA x 63 #[.int .i64 L.blocks, .slice (some ⟨g, 0, none⟩) L.sets.length c], rowA (.slice (some ⟨g, 0, none⟩) L.sets.length c) 65 1 L.sets.length (bs.map mv)]))) hb hc1 (hs1.mono (Nat.zero_le _)) (Nat.le_refl _)
  obtain ⟨w2, E2, hs2, hc2⟩ := SetAt.run_put (t := 65) (hs1.mono (Nat.zero_le m)) keyLaw Try.underlying65 Try.underlying3 (by have := hm.out; unfold maxLen; omega) (x := -1) (by decide)
  have h2 := sets_turn h1 hb hc2 hs2 (Nat.le_succ m)
  rw [List.set_set] at h2
  have H2 : Hid (Hv w T (lgA x (m + 1) (putS L i [-1]) :: R) w2) := by
    refine lg_close (L := putS L i [-1]) (v := .slice (some ⟨g, 0, none⟩) L.sets.length c) (bs := bs) ?_
    have e : (putS L i [-1]).sets.length = L.sets.length := by simp [putS]
    rw [e]
    exact h2.perm (List.perm_middle (l₁ := [blkA x 63 #[.int .i64 L.blocks, .slice (some ⟨g, 0, none⟩) L.sets.length c], rowA (.slice (some ⟨g, 0, none⟩) L.sets.length c) 65 1 L.sets.length (bs.map mv)])).symm
  clear hs1 hc1 h1 hs2 hc2 h2 hs hv k2 hl hm h hb hl2
  go_enter Try.func11, Try.ntmps11
  go_wp2_with fail
  refine (of_yes i hi k1 k3).mono ?_
  rintro e w3 ⟨rfl, rfl⟩
  clear k1 k3 k0
  go_wp2
  go_ret
  exact ⟨rfl, H2.out⟩
set_option maxRecDepth 100000 in
set_option maxHeartbeats 3200000 in
theorem put_had (i : Nat) (l : List Int) (hl : Hid (L.sets[i]? = some l)) (b : Int) (hp : Hid (0 ≤ b ∧ b < L.blocks)) (hany : Hid ((-1 : Int) ∈ l)) (h : Hid (Sep (lgA x m L :: R) w T)) :
    Calls Try.prog 11 #[.pointer (some ⟨x, 0, none⟩), .int .i64 (i : Int), .int .i64 b] w fun e w' => e = .returned (.int .i64 0) ∧ Below w.heap.size w w' := by
  obtain ⟨A, c, bs, k0, k1, k2, _⟩ := lg_cells (Hv.start h.out)
  obtain ⟨hi, hl2⟩ := List.getElem?_eq_some_iff.1 hl.out
  obtain ⟨g, sb, rfl, k3, _, hs⟩ := k2 i hi
  have HS := Lib.hid hs
  have hbm : ¬ b = -1 := by have := hp.out.1; omega
  have b1 : (b == -1) = false := by rw [beq_eq_false_iff_ne]; exact hbm
  have d1 : decide (b < 0) = false := decide_eq_false (by have := hp.out.1; omega)
  have d2 : decide (L.blocks ≤ b) = false := decide_eq_false (by have := hp.out.2; omega)
  have HA : Hid (decide ((-1 : Int) ∈ L.sets[i]) = true) := by show _ = _; rw [hl2]; exact decide_eq_true hany.out
  clear hp k2 hl h hl2 hs
  go_enter Try.func11, Try.ntmps11
  go_wp2_with fail
  refine (of_yes i hi k1 k3).mono ?_
  rintro e w2 ⟨rfl, rfl⟩
  clear k1 k3
  go_wp2_with fail
  refine (has_any HS.out (by decide)).mono ?_
  rintro e w3 ⟨rfl, hb⟩
  rw [HA.out]
  go_wp2
  go_ret
  exact ⟨rfl, hb⟩
set_option maxRecDepth 100000 in
set_option maxHeartbeats 3200000 in
theorem put_ins (i : Nat) (l : List Int) (hl : Hid (L.sets[i]? = some l)) (b : Int) (hp : Hid (0 ≤ b ∧ b < L.blocks)) (hmx : Hid (L.blocks ≤ 1000000)) (hm : Hid (m ≤ 1000000)) (hany : Hid (¬ (-1 : Int) ∈ l)) (h : Hid (Sep (lgA x m L :: R) w T)) :
    Calls Try.prog 11 #[.pointer (some ⟨x, 0, none⟩), .int .i64 (i : Int), .int .i64 b] w fun e w' => e = .returned (.int .i64 0) ∧ Hv w T (lgA x (m + 1) (putS L i (ins b l)) :: R) w' := by
  obtain ⟨A, c, bs, k0, k1, k2, hv⟩ := lg_cells (Hv.start h.out)
  obtain ⟨hi, hl2⟩ := List.getElem?_eq_some_iff.1 hl.out
  obtain ⟨g, sb, rfl, k3, hb, hs⟩ := k2 i hi
  rw [hl2] at hs
  have HS := Lib.hid hs
  have HB := Lib.hid hb
  have HV := Lib.hid hv
  have hbm : ¬ b = -1 := by have := hp.out.1; omega
  have b1 : (b == -1) = false := by rw [beq_eq_false_iff_ne]; exact hbm
  have d1 : decide (b < 0) = false := decide_eq_false (by have := hp.out.1; omega)
  have d2 : decide (L.blocks ≤ b) = false := decide_eq_false (by have := hp.out.2; omega)
  have HA : Hid (decide ((-1 : Int) ∈ l) = false) := decide_eq_false hany.out
  clear k2 hl h hl2 hs hb hv
  go_enter Try.func11, Try.ntmps11
  go_wp2_with fail
  refine (of_yes i hi k1 k3).mono ?_
  rintro e w2 ⟨rfl, rfl⟩
  clear k1 k3
  go_wp2_with fail
  refine (has_any HS.out (by decide)).mono ?_
  rintro e w3 ⟨rfl, hb3⟩
  rw [HA.out]
  have hs3 : SetW w3 sb m l := HS.out.of_block (hb3.block sb HS.out.lt)
  obtain ⟨w4, E4, hs4, hc4⟩ := SetAt.run_put (t := 65) hs3 keyLaw Try.underlying65 Try.underlying3 (by have := hm.out; unfold maxLen; omega) (x := b) (WalkArith.wf_i64 (by have := hp.out; have := hmx.out; omega))
  have h3 : Hv w T (setsA m bs L.sets :: blkA x 63 #[.int .i64 L.blocks, .slice (some ⟨g, 0, none⟩) L.sets.length c] :: rowA (.slice (some ⟨g, 0, none⟩) L.sets.length c) 65 1 L.sets.length (bs.map mv) :: R) w3 := (HV.out.still hb3).perm (List.perm_middle (l₁ := [blkA x 63 #[.int .i64 L.blocks, .slice (some ⟨g, 0, none⟩) L.sets.length c], rowA (.slice (some ⟨g, 0, none⟩) L.sets.length c) 65 1 L.sets.length (bs.map mv)]))
  have h4 := sets_turn h3 HB.out hc4 hs4 (Nat.le_succ m)
  have H4 : Hid (Hv w T (lgA x (m + 1) (putS L i (ins b l)) :: R) w4) := by
    refine lg_close (L := putS L i (ins b l)) (v := .slice (some ⟨g, 0, none⟩) L.sets.length c) (bs := bs) ?_
    have e : (putS L i (ins b l)).sets.length = L.sets.length := by simp [putS]
    rw [e]
    exact h4.perm (List.perm_middle (l₁ := [blkA x 63 #[.int .i64 L.blocks, .slice (some ⟨g, 0, none⟩) L.sets.length c], rowA (.slice (some ⟨g, 0, none⟩) L.sets.length c) 65 1 L.sets.length (bs.map mv)])).symm
  clear hb3 hs3 hs4 hc4 h3 h4 hp HV HS
  go_wp2
  go_ret
  exact ⟨rfl, H4.out⟩
theorem clear_nil (ty : TypeId) (w : World) : (Builtin.clear_ #[65] ty #[.map none]).run Try.prog w = .ok (.tuple #[]) w := by
  simp [Builtin.clear_, run_underlying Try.underlying65, Result.andThen]
theorem scrub_nil (s : Int) (w : World) : Calls Try.prog 14 #[.pointer none, .int .i64 s] w fun e w' => e = .returned (.int .i64 2) ∧ w = w' := by
  have hc := clear_nil
  go_enter Try.func14, Try.ntmps14
  go_wp2_with fail
  refine (of_nil s w).mono ?_
  rintro e w2 ⟨rfl, rfl⟩
  go_wp2
  go_ret
  exact ⟨rfl, rfl⟩
theorem scrub_no (s : Int) (hs : Hid (¬ (0 ≤ s ∧ s < (L.sets.length : Int)))) (h : Hid (Sep (lgA x m L :: R) w T)) : Calls Try.prog 14 #[.pointer (some ⟨x, 0, none⟩), .int .i64 s] w fun e w' => e = .returned (.int .i64 10) ∧ w = w' := by
  have hc := clear_nil
  go_enter Try.func14, Try.ntmps14
  go_wp2_with fail
  refine (of_no s hs h).mono ?_
  rintro e w2 ⟨rfl, rfl⟩
  go_wp2
  go_ret
  exact ⟨rfl, rfl⟩
set_option maxRecDepth 100000 in
set_option maxHeartbeats 3200000 in
theorem scrub_yes (i : Nat) (hi : Hid (i < L.sets.length)) (h : Hid (Sep (lgA x m L :: R) w T)) :
    Calls Try.prog 14 #[.pointer (some ⟨x, 0, none⟩), .int .i64 (i : Int)] w fun e w' => e = .returned (.int .i64 0) ∧ Hv w T (lgA x m (putS L i []) :: R) w' := by
  obtain ⟨A, c, bs, k0, k1, k2, hv⟩ := lg_cells (Hv.start h.out)
  obtain ⟨g, sb, rfl, k3, hb, hs⟩ := k2 i hi.out
  obtain ⟨w1, E1, hs1, hc1⟩ := SetAt.run_clear (t := 65) hs Try.underlying65
  have h1 : Hv w T (setsA m bs (L.sets.set i []) :: blkA x 63 #[.int .i64 L.blocks, .slice (some ⟨g, 0, none⟩) L.sets.length c] :: rowA (.slice (some ⟨g, 0, none⟩) L.sets.length c) 65 1 L.sets.length (bs.map mv) :: R) w1 :=
    sets_turn (hv.perm (List.perm_middle (l₁ := [blkA x 63 #[.int .i64 L.blocks, .slice (some ⟨g, 0, none⟩) L.sets.length c], rowA (.slice (some ⟨g, 0, none⟩) L.sets.length c) 65 1 L.sets.length (bs.map mv)]))) hb hc1 (hs1.mono (Nat.zero_le _)) (Nat.le_refl _)
  have H2 : Hid (Hv w T (lgA x m (putS L i []) :: R) w1) := by
    refine lg_close (L := putS L i []) (v := .slice (some ⟨g, 0, none⟩) L.sets.length c) (bs := bs) ?_
    have e : (putS L i []).sets.length = L.sets.length := by simp [putS]
    rw [e]
    exact h1.perm (List.perm_middle (l₁ := [blkA x 63 #[.int .i64 L.blocks, .slice (some ⟨g, 0, none⟩) L.sets.length c], rowA (.slice (some ⟨g, 0, none⟩) L.sets.length c) 65 1 L.sets.length (bs.map mv)])).symm
  clear hs1 hc1 h1 hs hv k2 h hb
  go_enter Try.func14, Try.ntmps14
  go_wp2_with fail
  refine (of_yes i hi.out k1 k3).mono ?_
  rintro e w3 ⟨rfl, rfl⟩
  clear k1 k3 k0
  go_wp2
  go_ret
  exact ⟨rfl, H2.out⟩
end
end Go.Proofs.Ytieojomabmippaa

/- The walk of New. -/
import Derived.Test.YtieojomabmippaaPut
namespace Go.Proofs.Ytieojomabmippaa
open Go.RowKit Go.LawEnd

theorem infoSet : ∃ i : TypeInfo, Try.prog.info? 65 = some i ∧ i.zero = some (.map none) ∧ i.size = 1 ∧ i.bytes = 8 := by
  have h : ((Try.prog.info? 65).map fun i => (i.zero, i.size, i.bytes)) = some (some (.map none), 1, 8) := by kernel_rfl
  cases hi : Try.prog.info? 65 with
  | none => rw [hi] at h; cases h
  | some i =>
    rw [hi] at h
    injection h with h
    injection h with h1 h
    injection h with h2 h3
    exact ⟨i, rfl, h1, h2, h3⟩
section
variable {w0 W : World} {S : Nat → Prop} {L : List Atom} {v : Value}
theorem app_set {bs : List Nat} {k : Nat} (h : Hv w0 S (rowA v 65 1 k (bs.map mv) :: L) W) (hl : k ≤ 100000) (b : Nat) :
    ∃ g cap w', (Builtin.append_ #[61, 61] 61 #[v, .slice (some ⟨W.heap.size, 0, none⟩) 1 1]).run Try.prog (W.alloc (.cells #[.map (some b)] 65)) = .ok (.slice (some ⟨g, 0, none⟩) (k + 1) cap) w' ∧
      Hv w0 S (rowA (.slice (some ⟨g, 0, none⟩) (k + 1) cap) 65 1 (k + 1) ((bs ++ [b]).map mv) :: L) w' := by
  obtain ⟨i0, hi0, hz0, hz1, hz2⟩ := infoSet
  obtain ⟨g, cap, w', h1, h2, _, _⟩ := h.append (P := Try.prog) 61 61 65 (i := i0) (bytes := 8) Try.underlying61 hi0 hz0 hz1 hz2 rfl (by omega) 1 (by omega) #[.map (some b)] rfl (by intro u hu; simp at hu; subst hu; rfl) (by unfold maxLen; omega) (by omega)
  refine ⟨g, cap, w', h1, ?_⟩
  rw [List.map_append]
  exact h2
end
def vInt : Value → Int
  | .int _ q => q
  | _ => 0
abbrev L0 (n : Nat) (blocks : Int) : Lg := ⟨blocks, List.replicate n []⟩
set_option maxRecDepth 100000 in
set_option maxHeartbeats 3200000 in
theorem new_yes (n : Nat) (bl : Int) (w : World) (h1 : 1 ≤ n) (h2 : n ≤ 1024) (h3 : 1 ≤ bl) (h4 : bl ≤ 4096) :
    Calls Try.prog 20 #[.int .i64 (n : Int), .int .i64 bl] w fun e w' => ∃ x : Nat, e = .returned (.tuple #[.pointer (some ⟨x, 0, none⟩), .int .i64 0]) ∧ Hv w No [lgA x 0 (L0 n bl)] w' := by
  have d1 : decide ((n : Int) < 1) = false := decide_eq_false (by omega)
  have d2 : decide ((1024 : Int) < (n : Int)) = false := decide_eq_false (by omega)
  have d3 : decide (bl < 1) = false := decide_eq_false (by omega)
  have d4 : decide (4096 < bl) = false := decide_eq_false (by omega)
  have hmm := @run_makeMap Try.prog
  go_enter Try.func20, Try.ntmps20
  go_wp2_with fail
  obtain ⟨x, hx⟩ : ∃ y, y = w.heap.size := ⟨_, rfl⟩
  obtain ⟨V, hV⟩ : ∃ y, y = w.alloc (.cells #[.int .i64 bl, .slice none 0 0] 63) := ⟨_, rfl⟩
  have hv := ((Hv.begin w).alloc 63 #[.int .i64 bl, .slice none 0 0])
  rw [← hV, ← hx] at hv
  rw [← hV, ← hx]
  have hv2 : Hv w No [setsA 0 [] [], blkA x 63 #[.int .i64 bl, .slice none 0 0]] V := by
    obtain ⟨S', hs, hf⟩ := hv
    exact ⟨S', ⟨fun _ => False, S', ⟨⟨rfl, List.nodup_nil, fun i b l hb _ => by simp at hb⟩, fun b => by simp⟩, hs, fun _ h => h.elim, fun b => by simp⟩, hf⟩
  have H0 : Hid (Hv w No [rowA (.slice none 0 0) 65 1 0 (([] : List Nat).map mv), setsA 0 [] [], blkA x 63 #[.int .i64 bl, .slice none 0 0]] V) := hv2.nilRow 65 1
  clear hv hv2 hV hx
  go_loopw [25] (fun i wr => ∃ k : Nat, k ≤ n ∧ i = .int .i64 k ∧ ∃ v bs, Hv w No [rowA v 65 1 k (bs.map mv), setsA 0 bs (List.replicate k []), blkA x 63 #[.int .i64 bl, v]] wr) (fun i _ => n - (vInt i).toNat)
  case atStart => exact ⟨0, by omega, rfl, _, [], H0.out⟩
  case round =>
    clear H0
    obtain ⟨k, hk, rfl, v, bs, hi⟩ := hrel
    obtain ⟨AF, cF, rfl⟩ := row_form (hi.row (i := 0) rfl)
    have HI := Lib.hid hi
    clear hi
    by_cases hkl : k < n
    · have c0 : wr.cell? ⟨x, 1, none⟩ = some (.slice AF k cF) := by simpa using (HI.out.blk (i := 2) rfl).cell 1
      have c1 : ((wr.alloc (.map #[] 0)).alloc (.cells #[.map (some wr.heap.size)] 65)).cell? ⟨x, 1, none⟩ = some (.slice AF k cF) := by simpa using (((HI.out.alloc_ (.map #[] 0)).alloc_ (.cells #[.map (some wr.heap.size)] 65)).blk (i := 2) rfl).cell 1
      have h1 := sets_push (HI.out.pick [1, 0, 2])
      rw [show List.replicate k ([] : List Int) ++ [[]] = List.replicate (k + 1) [] from (List.replicate_succ' ..).symm] at h1
      obtain ⟨g, cap, W2, hE, hH⟩ := app_set (h1.pick [1, 0, 2]) (by omega) wr.heap.size
      rw [World.size_alloc] at hE
      have HE := Lib.hid hE
      have c2 := (hH.blk (i := 2) rfl).frozen 1
      have c3 := (hH.blk (i := 2) rfl).cell 1
      have h3 := (hH.pick [2, 0, 1]).set 1 (.slice (some ⟨g, 0, none⟩) (k + 1) cap)
      have H3 := Lib.hid (h3.pick [1, 2, 0])
      clear hE hH h3 h1
      go_wp2_with (at_builtin; refine wpList_append_run rfl (.tmp 31) (.tmp 33) _ rfl HE.out ?_)
      go_roundw
      case rel => exact ⟨k + 1, by omega, rfl, _, _, H3.out⟩
      case measure => simp [vInt]; omega
    · obtain rfl : k = n := by omega
      have HX : Hid (Hv w No [lgA x 0 (L0 k bl)] wr) := by
        refine lg_close (R := []) (L := L0 k bl) (v := .slice AF k cF) (bs := bs) ?_
        have e : (L0 k bl).sets.length = k := by simp
        rw [e]
        exact HI.out.pick [2, 0, 1]
      clear HI
      go_wp2
      go_ret2
      exact ⟨_, rfl, HX.out⟩
theorem new_no (n bl : Int) (w : World) (h : Hid (n < 1 ∨ 1024 < n ∨ bl < 1 ∨ 4096 < bl)) :
    Calls Try.prog 20 #[.int .i64 n, .int .i64 bl] w fun e w' => e = .returned (.tuple #[.pointer none, .int .i64 24]) ∧ w = w' := by
  have h' := h.out
  cases e1 : decide (n < 1) <;> cases e2 : decide (1024 < n) <;> cases e3 : decide (bl < 1) <;> cases e4 : decide (4096 < bl)
  all_goals first
    | (exfalso; simp only [decide_eq_false_iff_not] at e1 e2 e3 e4; omega)
    | (clear h h'; go_enter Try.func20, Try.ntmps20; go_wp2; go_ret2; exact ⟨rfl, rfl⟩)
    | fail
end Go.Proofs.Ytieojomabmippaa

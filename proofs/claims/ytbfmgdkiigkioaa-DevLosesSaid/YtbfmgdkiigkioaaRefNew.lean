/- The document's New. -/
import Derived.Test.YtbfmgdkiigkioaaRefA
namespace Go.Proofs.Ytbfmgdkiigkioaa
open Go.RowKit Go.LawEnd

section
variable {w0 W : World} {S : Nat → Prop} {L : List Atom} {v : Value}
theorem app_bl {l : List Int} (h : Hv w0 S (blA v l :: L) W) (hl : l.length ≤ 100000) (z : Int) (te : TypeId) :
    ∃ g cap w', (Builtin.append_ #[48, 48] 48 #[v, .slice (some ⟨W.heap.size, 0, none⟩) 1 1]).run Try.prog (W.alloc (.cells (markC z).toArray te)) = .ok (.slice (some ⟨g, 0, none⟩) (l.length + 1) cap) w' ∧
      Hv w0 S (blA (.slice (some ⟨g, 0, none⟩) (l.length + 1) cap) (l ++ [z]) :: L) w' := by
  obtain ⟨i0, hi0, hz0, hz1, hz2⟩ := infoBlock
  obtain ⟨g, cap, w', h1, h2, _, _⟩ := h.append (P := Try.prog) 48 48 te (i := i0) (bytes := 64) Try.underlying48 hi0 hz0 hz1 hz2 (by show (markC 0).toArray.size = 64; simp [markC_length]) (by omega) 1 (by omega) (markC z).toArray (by simp [markC_length]) (by simpa using markC_cell z) (by unfold maxLen; omega) (by omega)
  refine ⟨g, cap, w', h1, ?_⟩
  have e1 : (l ++ [z]).length = l.length + 1 := by simp
  unfold blA
  rw [e1, bls_append]
  exact h2
end
theorem bslice_bl (z : Int) (W : World) : (Instr.buildSlice 48 1 #[(0, .agg (markC z).toArray)]).run Try.prog W = .ok (.slice (some ⟨W.heap.size, 0, none⟩) 1 1) (W.alloc (.cells (markC z).toArray 34)) := by
  obtain ⟨i0, hi0, hz0, hz1, hz2⟩ := infoBlock
  exact bslice_run _ 34 W _ i0 _ Try.underlying48 hi0 hz0 (by rw [hz1]; simp [markC_length]) (by simp [markC_length]) (by simp [markC_length])
theorem wpList_bslice {ops : Array Oper} {rest : List Oper} {op : Oper} {a : Act} {w w' : World} {v : Value} {Q : Exit → Act → World → Prop} (hgd : op.guard = none) (t : TypeId) (n : Nat) (x : Operand) (ho : op.op = .buildSlice t n #[(0, x)])
    (hrun : (Instr.buildSlice t n #[(0, a.eval x)]).run Try.prog w = .ok v w') (h : wpList Try.prog ops Q rest (a.put op.dst v) w') : wpList Try.prog ops Q (op :: rest) a w := by
  refine wpList_plain hgd fun K hK => ?_
  unfold Oper.wp execOp
  have e : (#[(0, x)] : Array (Nat × Operand)).map (fun (i, x) => (i, a.eval x)) = #[(0, a.eval x)] := by simp
  simp only [ho, Sem.run_bind, Sem.run_pure, Result.andThen_ok, e, hrun]
  exact hK _ _ h
set_option maxRecDepth 100000 in
set_option maxHeartbeats 3200000 in
theorem rnew_any (n : Nat) (hn : n ≤ 4096) (w : World) :
    Calls Try.prog 21 #[.int .i64 (n : Int)] w fun e w' => ∃ x : Nat, e = .returned (.pointer (some ⟨x, 0, none⟩)) ∧ Hv w No [refA x (D0 n)] w' := by
  have hz := zero34
  have hml := markC_length
  go_enter Try.func21, Try.ntmps21
  go_wp2_with fail
  obtain ⟨x, hx⟩ : ∃ y, y = w.heap.size := ⟨_, rfl⟩
  obtain ⟨V, hV⟩ : ∃ y, y = w.alloc (.cells #[.slice none 0 0, .slice none 0 0, .slice none 0 0] 52) := ⟨_, rfl⟩
  have h1 := ((Hv.begin w).alloc 52 #[.slice none 0 0, .slice none 0 0, .slice none 0 0]).nilRow 34 64
  rw [← hV, ← hx] at h1
  rw [← hV, ← hx]
  have H0 := Lib.hid h1
  clear h1 hV hx
  go_loopw [4] (fun i wr => ∃ k : Nat, k ≤ n ∧ i = .int .i64 k ∧ ∃ vF, Hv w No [blA vF (List.replicate k 0), blkA x 52 #[vF, .slice none 0 0, .slice none 0 0]] wr) (fun i _ => n - (intOf i).toNat)
  case atStart => exact ⟨0, by omega, rfl, _, H0.out⟩
  case round =>
    clear H0
    obtain ⟨k, hk, rfl, vF, hi⟩ := hrel
    obtain ⟨AF, cF, rfl⟩ := row_form (hi.row (i := 0) rfl)
    have HI := Lib.hid hi
    clear hi
    by_cases hkl : k < n
    · have c0 : wr.cell? ⟨x, 0, none⟩ = some (.slice AF k cF) := by simpa using (HI.out.blk (i := 1) rfl).cell 0
      obtain ⟨g, cap, W2, hE, hH⟩ := app_bl HI.out (by rw [List.length_replicate]; omega) 0 34
      rw [List.length_replicate] at hE hH
      rw [show List.replicate k (0 : Int) ++ [0] = List.replicate (k + 1) 0 from (List.replicate_succ' ..).symm] at hH
      have HE := Lib.hid hE
      have c1 := (hH.blk (i := 1) rfl).frozen 0
      have c2 := (hH.blk (i := 1) rfl).cell 0
      have h3 := (hH.front 1 (by simp)).set 0 (.slice (some ⟨g, 0, none⟩) (k + 1) cap)
      have H3 := Lib.hid (h3.pick [1, 0])
      clear hE hH h3
      go_upto_region 5 with (fail)
      apply wp_region_lit
      iterate 18 go_step
      refine wpList_bslice rfl 48 1 (.tmp 17) rfl (bslice_bl 0 wr) ?_
      go_wp2_with (at_builtin; refine wpList_append_run rfl (.tmp 16) (.tmp 18) _ rfl HE.out ?_)
      go_roundw
      case rel => exact ⟨k + 1, by omega, rfl, _, H3.out⟩
      case measure => simp [intOf]; omega
    · obtain rfl : k = n := by omega
      have HX : Hid (Hv w No [refA x (D0 k)] wr) := by
        have h4 := hv_nilWin (HI.out.nilRow 74 65) 3
        refine ref_close (R := []) (D := D0 k) (vF := .slice AF (List.replicate k (0 : Int)).length cF) (vO := .slice none 0 0) (vP := .slice none 0 0) ?_
        exact h4.pick [3, 2, 1, 0]
      clear HI
      go_wp2
      go_ret
      exact ⟨_, rfl, HX.out⟩
end Go.Proofs.Ytbfmgdkiigkioaa

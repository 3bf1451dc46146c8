/- The walk of New. -/
import Derived.Test.YtbfmgdkiigkioaaFirm
import Derived.Laws.MakeOwn
import Derived.Laws.OwnMore
import Derived.OwnWalk
namespace Go.Proofs.Ytbfmgdkiigkioaa
open Go.RowKit Go.LawEnd

theorem bls_made (n : Nat) : bls (List.replicate n 0) = (madeCells (markC 0).toArray (n * 64)).toList := by
  refine List.ext_getElem? fun j => ?_
  by_cases hj : j < n * 64
  · have hd : j / 64 < n := by omega
    have hg := flat_get markC 64 markC_length (List.replicate n 0) (j / 64) (by simpa using hd) (j % 64) (by omega)
    have e : j / 64 * 64 + j % 64 = j := by omega
    rw [e, List.getElem_replicate] at hg
    unfold bls
    rw [hg]
    have h64 : (markC 0).toArray.size = 64 := by simp [markC_length]
    have hlt : j % 64 < (markC 0).length := by rw [markC_length]; omega
    rw [List.getElem?_eq_getElem hlt]
    unfold madeCells
    rw [h64, Array.toList_map, List.getElem?_map, Array.toList_range, List.getElem?_range hj]
    show some _ = some _
    congr 1
    show (markC 0)[j % 64] = (markC 0).toArray[j % 64]!
    rw [getElem!_pos (markC 0).toArray (j % 64) (by rw [h64]; omega)]
    simp
  · rw [List.getElem?_eq_none (by rw [bls_length, List.length_replicate]; omega), List.getElem?_eq_none (by simp [size_madeCells]; omega)]
theorem infoBlock : ∃ i : TypeInfo, Try.prog.info? 34 = some i ∧ i.zero = some (.agg (markC 0).toArray) ∧ i.size = 64 ∧ i.bytes = 64 := by
  have h : ((Try.prog.info? 34).map fun i => (i.zero, i.size, i.bytes)) = some (some (.agg (.int .u8 0 :: List.replicate 63 (.int .u8 0)).toArray), 64, 64) := by kernel_rfl
  cases hi : Try.prog.info? 34 with
  | none => rw [hi] at h; cases h
  | some i =>
    rw [hi] at h
    injection h with h
    injection h with h1 h
    injection h with h2 h3
    exact ⟨i, rfl, by rw [markC_eq]; exact h1, h2, h3⟩
theorem hv_nilWin {w0 w : World} {S : Nat → Prop} {L : List Atom} (h : Hv w0 S L w) (e : TypeId) : Hv w0 S (winA (.slice none 0 0) e 0 [] :: L) w := by
  obtain ⟨S', hs, hf⟩ := h
  exact ⟨S', ⟨fun _ => False, S', ⟨Win.nil_ w 0 e, fun b => by simp [Value.ownBlock]⟩, hs, fun _ h => h.elim, fun b => by simp⟩, hf⟩
abbrev D0 (n : Nat) : Dv := ⟨List.replicate n 0, [], [], true⟩
set_option maxRecDepth 100000 in
set_option maxHeartbeats 1600000 in
theorem new_yes (n : Nat) (w : World) (h1 : 1 ≤ n) (h2 : n ≤ 4096) :
    Calls Try.prog 12 #[.int .i64 (n : Int)] w fun e w' => ∃ x : Nat, e = .returned (.tuple #[.pointer (some ⟨x, 0, none⟩), .int .i64 0]) ∧ Hv w No [devA x (D0 n)] w' := by
  obtain ⟨i0, hi, hz0, hz1, hz2⟩ := infoBlock
  go_enter Try.func12, Try.ntmps12
  go_wp2_with (at_make; refine wpList_make_full _ rfl _ _ 48 rfl 0 34 i0 (.agg (markC 0).toArray) 64 Try.underlying48 hi hz0 hz1 .i64 .i64 _ _ n rfl rfl rfl rfl ?d1 ?d2 (Nat.zero_le _) ?_)
  case d1 => omega
  case d2 => unfold maxLen; omega
  intro w1 ho1 hg1
  have hb1 : Below w.heap.size w w1 := ⟨hg1.os, hg1.tape, hg1.output, hg1.size, fun k hk => hg1.block k hk (by simp)⟩
  rw [← bls_made] at ho1
  obtain ⟨g, hgd⟩ : ∃ g, g = w.heap.size := ⟨_, rfl⟩
  have hA : Hv w No [blA (.slice (some ⟨g, 0, none⟩) n n) (List.replicate n 0)] w1 := by
    refine hv_fresh _ (T := fun b => b = g) ⟨?_, fun b => ?_⟩ (fun b hb => by rw [hb, hgd]; exact Nat.le_refl _) hb1
    · rw [hgd, List.length_replicate]; exact ho1
    · simp [Value.ownBlock, eq_comm]
  have hB := (hv_nilWin (hA.nilRow 66 65) 3).alloc 62 #[.slice (some ⟨g, 0, none⟩) n n, .slice none 0 0, .slice none 0 0]
  have HC : Hid (Hv w No [devA w1.heap.size (D0 n)] (w1.alloc (.cells #[.slice (some ⟨g, 0, none⟩) n n, .slice none 0 0, .slice none 0 0] 62))) := dev_close (R := []) (hB.pick [0, 3, 2, 1]) ⟨fun _ => rfl, fun _ => rfl⟩
  clear hA hB hb1
  rw [← hgd]
  clear ho1 hg1 hgd
  go_wp2_with fail
  go_ret2
  exact ⟨_, rfl, HC.out⟩
set_option maxRecDepth 100000 in
theorem new_no (n : Int) (w : World) (h : Hid (n < 1 ∨ 4096 < n)) :
    Calls Try.prog 12 #[.int .i64 n] w fun e w' => e = .returned (.tuple #[.pointer none, .int .i64 24]) ∧ w = w' := by
  by_cases h1 : n < 1
  · have d1 : decide (n < 1) = true := decide_eq_true h1
    go_enter Try.func12, Try.ntmps12
    go_wp2
    go_ret2
    exact ⟨rfl, rfl⟩
  · have d1 : decide (n < 1) = false := decide_eq_false h1
    have d2 : decide (4096 < n) = true := decide_eq_true (h.out.resolve_left h1)
    go_enter Try.func12, Try.ntmps12
    go_wp2
    go_ret2
    exact ⟨rfl, rfl⟩
end Go.Proofs.Ytbfmgdkiigkioaa

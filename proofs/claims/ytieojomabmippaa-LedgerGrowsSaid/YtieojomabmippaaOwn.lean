/- Keys, Sorted, Owners. -/
import Derived.Test.YtieojomabmippaaNew
import Derived.Test.YtieojomabmippaaLay
import Derived.Deep.Onto
namespace Go.Proofs.Ytieojomabmippaa
open Go.RowKit Go.LawEnd Go.Shelf Go.Maps

theorem sorts_at (m : Nat) : AnyZI.SortsIn Try.prog sortedL_ren Fence.wide m :=
  ⟨fun blk off cap ss W hH hblk hsz => callsIn_wide.2 (AnyM.slices_Sort_int sortL blk off cap ss W hH hblk hsz),
   fun p cap W => callsIn_wide.2 (AnyM.slices_Sort_int_none sortL p cap W)⟩
theorem sorted_keys {w : World} {b n : Nat} {D : DataW Unit} {l ss : List Int} (ho : w.ownsMap Try.prog 3 unitElem b n D) (hh : ∀ x, has D (.int .i64 x) = decide (x ∈ l)) (hl : l.Pairwise (· < ·)) (hp : ss.Perm (intKeys D)) :
    ss.mergeSort (fun x y => decide (x ≤ y)) = l := by
  have h1 : CollectedI D (fun _ => false) l := ⟨hl.imp fun {a b} h e => by omega, fun x => by rw [hh x]; simp⟩
  have h2 := h1.perm ho keyLaw Try.underlying3 (fun _ => rfl)
  refine List.Perm.eq_of_pairwise (le := fun a b => decide (a ≤ b) = true) (fun a b _ _ h1 h2 => by simp only [decide_eq_true_eq] at h1 h2; omega) (List.pairwise_mergeSort (fun a b c h1 h2 => by simp only [decide_eq_true_eq] at *; omega) (fun a b => by simp only [Bool.or_eq_true, decide_eq_true_eq]; omega) ss) (hl.imp fun {a b} h => by simp only [decide_eq_true_eq]; omega) ((List.mergeSort_perm ss _).trans (hp.trans h2.symm))
theorem keys_any (b : Nat) (w : World) : Calls Try.prog 39 #[.map (some b)] w fun e w' => e = .returned (.func (.func 46) #[] #[.pointer (some ⟨w.heap.size, 0, none⟩)]) ∧ w' = w.alloc (.cells #[.map (some b)] 65) :=
  (callsIn_wide (n := 5)).1 (AnyZI.keys_in keysL Fence.wide 5 trivial rfl (some b) w)
set_option maxHeartbeats 1600000 in
theorem sorted_any {w : World} {b m B : Nat} {l : List Int} (h : SetW w b m l) (hm : m ≤ 1000000) (hB : w.cell? ⟨B, 0, none⟩ = some (.map (some b))) :
    Calls Try.prog 38 #[.func (.func 46) #[] #[.pointer (some ⟨B, 0, none⟩)]] w fun e w' => ∃ v, e = .returned v ∧ Hv w No [rowA v 3 1 l.length (l.map (Value.int .i64))] w' := by
  obtain ⟨⟨D, ho, _, hh⟩, hl, _⟩ := h
  have hsz : Maps.size D ≤ 1000000 := Nat.le_trans ho.size_le hm
  have hBl : B < w.heap.size := block_lt hB
  have hseq : SeqGives Fence.wide 2 Try.prog 46 #[.pointer (some ⟨B, 0, none⟩)] encZ (fun ss => ss.Perm (intKeys D)) (Maps.size D) w :=
    AnyZI.keys_gives (ρ := keysL_ren) { keysL with } Fence.wide _ trivial rfl (by omega) B b m D w hBl hB ho
  have cS := AnyZI.sorted_in sortedL Fence.wide 5 trivial trivial trivial trivial rfl (by omega) (sorts_at _) (enters_of Try.func45 (by kernel_rfl) rfl) 46 #[.pointer (some ⟨B, 0, none⟩)] trivial (enters_of Try.func46 (by kernel_rfl) rfl) _ _ (by unfold maxLen; omega) (by omega) w hseq
  refine ((callsIn_wide (n := 5)).1 cS).mono ?_
  rintro e w' ⟨v, ss, rfl, hS, hrow, _, hb⟩
  rw [sorted_keys ho hh hl hS] at hrow
  have hlen : ss.length = l.length := by rw [← sorted_keys ho hh hl hS, List.length_mergeSort]
  rw [hlen] at hrow
  refine ⟨v, rfl, hv_fresh (rowA v 3 1 l.length (l.map (Value.int .i64))) (T := fun b => v.ownBlock = some b) ⟨World.ownsRow.mono hrow (Nat.zero_le _), fun _ => Iff.rfl⟩ (fun c hc => (World.ownsRow.lt hrow c hc).1) hb⟩
theorem owners_nil (s : Int) (w : World) : Calls Try.prog 21 #[.pointer none, .int .i64 s] w fun e w' => e = .returned (.tuple #[.slice none 0 0, .int .i64 2]) ∧ w = w' := by
  go_enter Try.func21, Try.ntmps21
  go_wp2_with fail
  refine (of_nil s w).mono ?_
  rintro e w2 ⟨rfl, rfl⟩
  go_wp2
  go_ret2
  exact ⟨rfl, rfl⟩
section
variable {T : Nat → Prop} {x m : Nat} {L : Lg} {w : World} {R : List Atom}
set_option maxRecDepth 100000 in
set_option maxHeartbeats 3200000 in
theorem owners_yes (i : Nat) (l : List Int) (hl : Hid (L.sets[i]? = some l)) (hm : Hid (m ≤ 1000000)) (h : Hid (Sep (lgA x m L :: R) w T)) :
    Calls Try.prog 21 #[.pointer (some ⟨x, 0, none⟩), .int .i64 (i : Int)] w fun e w' => ∃ v, e = .returned (.tuple #[v, .int .i64 0]) ∧ Hv w No [rowA v 3 1 l.length (l.map (Value.int .i64))] w' := by
  obtain ⟨A, c, bs, k0, k1, k2, _⟩ := lg_cells (Hv.start h.out)
  obtain ⟨hi, hl2⟩ := List.getElem?_eq_some_iff.1 hl.out
  obtain ⟨g, sb, rfl, k3, _, hs⟩ := k2 i hi
  rw [hl2] at hs
  have HS := Lib.hid hs
  clear k2 hl h hl2 hs
  go_enter Try.func21, Try.ntmps21
  go_wp2_with fail
  refine (of_yes i hi k1 k3).mono ?_
  rintro e w2 ⟨rfl, rfl⟩
  clear k1 k3 k0
  go_wp2_with fail
  refine (keys_any sb w).mono ?_
  rintro e w3 ⟨rfl, rfl⟩
  have HV : Hid (Hv w No [blkA w.heap.size 65 #[.map (some sb)]] (w.alloc (.cells #[.map (some sb)] 65))) := (Hv.begin w).alloc _ _
  have HS2 : Hid (SetW (w.alloc (.cells #[.map (some sb)] 65)) sb m l) := HS.out.of_block (HV.out.below.block sb HS.out.lt)
  go_wp2_with fail
  refine (sorted_any HS2.out hm.out (by simp)).mono ?_
  rintro e w4 ⟨v, rfl, h4⟩
  have H4 : Hid (Hv w No [rowA v 3 1 l.length (l.map (Value.int .i64))] w4) := (HV.out.add h4).pick [0]
  clear h4 HV HS2
  go_wp2
  go_ret2
  exact ⟨v, rfl, H4.out⟩
end
end Go.Proofs.Ytieojomabmippaa

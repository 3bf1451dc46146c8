/- A ledger in memory; of. -/
import Derived.Test.YtieojomabmippaaChecked
import Derived.Test.YtieojomabmippaaSep
import Derived.Test.YtieojomabmippaaApp
import Derived.Test.YtieojomabmippaaQb
import Derived.Test.YtieojomabmippaaMapSet
import Derived.WalkKit
import Derived.WalkSpells
import Derived.WalkLawsBesides
import Derived.Lib.Hide
import Derived.Deep.DeepCutAuto
import Derived.Deep.QuietTactic
import Derived.BigQuiet
import Derived.Laws.ResultCell
import Derived.Deep.RegionHeld3
import Derived.IntWalk
namespace Go.Proofs.Ytieojomabmippaa
open Go.RowKit Go.LawEnd

theorem keyLaw : Maps.Keyed Try.prog 3 := Maps.int_keyed Try.underlying3
theorem zeroUnit : ∀ u : World, (zeroValue 67).run Try.prog u = .ok (.agg #[]) u := fun u => by kernel_rfl
abbrev SetW (w : World) (b m : Nat) (l : List Int) : Prop := SetAt Try.prog 3 w b m l
/-- sets, each on a block of its own -/
def setsA (m : Nat) (bs : List Nat) (Ss : List (List Int)) : Atom where
  P w S := (bs.length = Ss.length ∧ bs.Nodup ∧ ∀ i b l, bs[i]? = some b → Ss[i]? = some l → SetW w b m l) ∧ ∀ b, S b ↔ b ∈ bs
  lt h hb := by
    obtain ⟨i, hi, rfl⟩ := List.getElem_of_mem ((h.2 _).1 hb)
    have hi2 := hi
    rw [h.1.1] at hi2
    exact (h.1.2.2 i _ _ (List.getElem?_eq_getElem hi) (List.getElem?_eq_getElem hi2)).lt
  keep h hk := ⟨⟨h.1.1, h.1.2.1, fun i b l hb hl => (h.1.2.2 i b l hb hl).of_block (hk b ((h.2 b).2 (List.mem_of_getElem? hb)))⟩, h.2⟩
section
variable {w0 w w' : World} {S : Nat → Prop} {R : List Atom} {m : Nat} {bs : List Nat} {Ss : List (List Int)}
theorem sets_at {L : List Atom} {j : Nat} (h : Hv w0 S L w) (hj : L[j]? = some (setsA m bs Ss)) (i : Nat) (hi : i < Ss.length) : ∃ b, bs[i]? = some b ∧ SetW w b m Ss[i] := by
  obtain ⟨T, hT⟩ := h.at_ hj
  have hi2 : i < bs.length := by rw [hT.1.1]; exact hi
  exact ⟨bs[i], List.getElem?_eq_getElem hi2, hT.1.2.2 i _ _ (List.getElem?_eq_getElem hi2) (List.getElem?_eq_getElem hi)⟩
theorem sets_turn {m' i b : Nat} {l' : List Int} (h : Hv w0 S (setsA m bs Ss :: R) w) (hb : bs[i]? = some b) (hc : Ch (fun k => k = b) w w') (hs : SetW w' b m' l') (hm : m ≤ m') : Hv w0 S (setsA m' bs (Ss.set i l') :: R) w' := by
  obtain ⟨T, hT, hJ⟩ := Hv.use [setsA m bs Ss] R h
  obtain ⟨⟨h1, h2, h3⟩, h4⟩ := hT.out
  refine hJ [setsA m' bs (Ss.set i l')] w' ⟨T, Sep.one ⟨⟨by rw [List.length_set]; exact h1, h2, fun j c l hc2 hl => ?_⟩, h4⟩, hc.mono fun k _ hk => by rw [hk]; exact (h4 b).2 (List.mem_of_getElem? hb), fun c hc => .inl hc⟩
  by_cases hij : i = j
  · subst hij
    rw [hb] at hc2
    injection hc2 with hc2
    subst hc2
    have hl2 : i < Ss.length := by have := (List.getElem?_eq_some_iff.1 hb).1; omega
    rw [List.getElem?_set_self hl2] at hl
    injection hl with hl
    subst hl
    exact hs
  · rw [List.getElem?_set_ne hij] at hl
    have hcb : c ≠ b := by
      rintro rfl
      obtain ⟨hi1, e1⟩ := List.getElem?_eq_some_iff.1 hb
      obtain ⟨hj1, e2⟩ := List.getElem?_eq_some_iff.1 hc2
      rcases Nat.lt_or_gt_of_ne hij with h | h
      · exact List.pairwise_iff_getElem.1 h2 i j hi1 hj1 h (e1.trans e2.symm)
      · exact List.pairwise_iff_getElem.1 h2 j i hj1 hi1 h (e2.trans e1.symm)
    have h5 := h3 j c l hc2 hl
    exact (h5.of_block (hc.block c h5.lt hcb)).mono hm
theorem sets_push (h : Hv w0 S (setsA m bs Ss :: R) w) : Hv w0 S (setsA m (bs ++ [w.heap.size]) (Ss ++ [[]]) :: R) (w.alloc (.map #[] 0)) := by
  obtain ⟨T, hT, hJ⟩ := Hv.use [setsA m bs Ss] R h
  have hlt : ∀ b ∈ bs, b < w.heap.size := fun b hb => hT.lt ((hT.out.2 b).2 hb)
  obtain ⟨⟨h1, h2, h3⟩, h4⟩ := hT.out
  refine hJ [setsA m (bs ++ [w.heap.size]) (Ss ++ [[]])] _ ⟨fun b => b ∈ bs ++ [w.heap.size], Sep.one ⟨⟨by simp [h1], ?_, fun j c l hc hl => ?_⟩, fun _ => Iff.rfl⟩, (Ch.refl _ w).alloc _, fun b hb => ?_⟩
  · refine List.nodup_append.2 ⟨h2, by simp, fun a ha c hc e => ?_⟩
    rw [List.mem_singleton] at hc
    have := hlt a ha
    omega
  · by_cases hj : j < bs.length
    · rw [List.getElem?_append_left hj] at hc
      rw [List.getElem?_append_left (by omega)] at hl
      have h5 := h3 j c l hc hl
      exact h5.of_block (((Below.refl _ w).alloc (Nat.le_refl _) (.map #[] 0)).block c h5.lt)
    · rw [List.getElem?_append_right (by omega)] at hc
      rw [List.getElem?_append_right (by omega)] at hl
      have hj0 : j - bs.length = 0 := by have := (List.getElem?_eq_some_iff.1 hc).1; simpa using this
      rw [hj0] at hc
      rw [← h1, hj0] at hl
      simp at hc hl
      subst hc
      subst hl
      exact (SetAt.made w _ _).mono (Nat.zero_le _)
  · rcases List.mem_append.1 hb with hb | hb
    · exact .inl ((h4 b).2 hb)
    · rw [List.mem_singleton] at hb
      exact .inr (by omega)
end
structure Lg where
  blocks : Int
  sets : List (List Int)
abbrev mv (b : Nat) : Value := .map (some b)
noncomputable def lgA (x m : Nat) (L : Lg) : Atom := packA fun a : Value × List Nat => [blkA x 63 #[.int .i64 L.blocks, a.1], rowA a.1 65 1 L.sets.length (a.2.map mv), setsA m a.2 L.sets]
theorem row_form {w : World} {v : Value} {e : TypeId} {size n : Nat} {xs : List Value} (h : w.ownsRow 0 e size v n xs) : ∃ A c, v = .slice A n c := by
  rcases h.2 with ⟨rfl, h0⟩ | ⟨g, cap, cur, rfl, _⟩
  · exact ⟨none, 0, by rw [h0]⟩
  · exact ⟨_, _, rfl⟩
theorem lg_cells {w0 w : World} {S : Nat → Prop} {R : List Atom} {x m : Nat} {L : Lg} (h : Hv w0 S (lgA x m L :: R) w) : ∃ A c bs, w.cell? ⟨x, 0, none⟩ = some (.int .i64 L.blocks) ∧ w.cell? ⟨x, 1, none⟩ = some (.slice A L.sets.length c) ∧
    (∀ i (hi : i < L.sets.length), ∃ g b, A = some ⟨g, 0, none⟩ ∧ w.cell? ⟨g, i, none⟩ = some (.map (some b)) ∧ bs[i]? = some b ∧ SetW w b m L.sets[i]) ∧
    Hv w0 S (blkA x 63 #[.int .i64 L.blocks, .slice A L.sets.length c] :: rowA (.slice A L.sets.length c) 65 1 L.sets.length (bs.map mv) :: setsA m bs L.sets :: R) w := by
  obtain ⟨⟨v, bs⟩, hv⟩ := h.open_
  have hr := hv.row (i := 1) rfl
  obtain ⟨A, c, rfl⟩ := row_form hr
  refine ⟨A, c, bs, by simpa using (hv.blk (i := 0) rfl).cell 0, by simpa using (hv.blk (i := 0) rfl).cell 1, fun i hi => ?_, hv⟩
  obtain ⟨b, hb, hs⟩ := sets_at hv (j := 2) rfl i hi
  rcases hr.2 with ⟨_, h0⟩ | ⟨g, cap, cur, e, _, hh, _⟩
  · exact absurd hi (by rw [show L.sets.length = 0 from h0]; exact Nat.not_lt_zero _)
  · cases e
    refine ⟨g, b, rfl, ?_, hb, hs⟩
    rw [hr.cellAt i (by simpa using hi), List.getElem?_map, hb]
    rfl
theorem lg_close {w0 w : World} {S : Nat → Prop} {R : List Atom} {x m : Nat} {L : Lg} {v : Value} {bs : List Nat} (h : Hv w0 S (blkA x 63 #[.int .i64 L.blocks, v] :: rowA v 65 1 L.sets.length (bs.map mv) :: setsA m bs L.sets :: R) w) : Hv w0 S (lgA x m L :: R) w :=
  Hv.close (f := fun a : Value × List Nat => [blkA x 63 #[.int .i64 L.blocks, a.1], rowA a.1 65 1 L.sets.length (a.2.map mv), setsA m a.2 L.sets]) (v, bs) h
theorem of_nil (s : Int) (w : World) : Calls Try.prog 27 #[.pointer none, .int .i64 s] w fun e w' => e = .returned (.tuple #[.map none, .int .i64 2]) ∧ w = w' := by
  go_enter Try.func27, Try.ntmps27
  go_wp2
  go_ret2
  exact ⟨rfl, rfl⟩
section
variable {T : Nat → Prop} {x m : Nat} {L : Lg} {w : World} {R : List Atom}
theorem of_no (s : Int) (hs : Hid (¬ (0 ≤ s ∧ s < (L.sets.length : Int)))) (h : Hid (Sep (lgA x m L :: R) w T)) : Calls Try.prog 27 #[.pointer (some ⟨x, 0, none⟩), .int .i64 s] w fun e w' => e = .returned (.tuple #[.map none, .int .i64 10]) ∧ w = w' := by
  obtain ⟨A, c, bs, k0, k1, _, _⟩ := lg_cells (Hv.start h.out)
  have hs' := hs.out
  by_cases h0 : s < 0
  · have d1 : decide (s < 0) = true := decide_eq_true h0
    clear hs hs'
    go_enter Try.func27, Try.ntmps27
    go_wp2
    go_ret2
    exact ⟨rfl, rfl⟩
  · have d1 : decide (s < 0) = false := decide_eq_false h0
    have d2 : decide ((L.sets.length : Int) ≤ s) = true := decide_eq_true (by omega)
    clear hs hs'
    go_enter Try.func27, Try.ntmps27
    go_wp2
    go_ret2
    exact ⟨rfl, rfl⟩
theorem of_yes {g b c : Nat} (i : Nat) (hi : i < L.sets.length) (k1 : w.cell? ⟨x, 1, none⟩ = some (.slice (some ⟨g, 0, none⟩) L.sets.length c)) (k2 : w.cell? ⟨g, i, none⟩ = some (.map (some b))) : Calls Try.prog 27 #[.pointer (some ⟨x, 0, none⟩), .int .i64 (i : Int)] w fun e w' => e = .returned (.tuple #[.map (some b), .int .i64 0]) ∧ w = w' := by
  obtain ⟨n, hn⟩ : ∃ n, n = L.sets.length := ⟨_, rfl⟩
  rw [← hn] at k1 hi
  clear hn
  have d1 : decide ((i : Int) < 0) = false := decide_eq_false (by omega)
  have d2 : decide ((n : Int) ≤ (i : Int)) = false := decide_eq_false (by omega)
  have d3 : decide ((i : Int) < (n : Int)) = true := decide_eq_true (by omega)
  go_enter Try.func27, Try.ntmps27
  go_wp2
  go_ret2
  exact ⟨rfl, rfl⟩
end
end Go.Proofs.Ytieojomabmippaa

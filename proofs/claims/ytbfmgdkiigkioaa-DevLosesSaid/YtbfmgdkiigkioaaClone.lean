/- Clones of a device's rows. -/
import Derived.Test.YtbfmgdkiigkioaaStep
import Derived.Test.YtbfmgdkiigkioaaLay
import Derived.Deep.Onto
namespace Go.Proofs.Ytbfmgdkiigkioaa
open Go.RowKit Go.LawEnd Go.Shelf

theorem sizeOfBlock (w : World) : (Go.sizeOf 34).run Try.prog w = .ok 64 w := by
  obtain ⟨i, hi, _, h2, _⟩ := infoBlock
  simp [Go.sizeOf, typeInfo, hi, h2]
theorem sizeOfWr (w : World) : (Go.sizeOf 66).run Try.prog w = .ok 65 w := by
  obtain ⟨i, hi, _, h2, _⟩ := infoWr
  simp [Go.sizeOf, typeInfo, hi, h2]
theorem flat_cell {α : Type} (c : α → List Value) (hc : ∀ x, ∀ u ∈ c x, u.oneCell' = true) (l : List α) : ∀ u ∈ l.flatMap c, u.oneCell' = true := by
  intro u hu
  obtain ⟨x, _, hx⟩ := List.mem_flatMap.1 hu
  exact hc x u hx
theorem clone_bl {v : Value} (l : List Int) (w : World) (h : w.ownsRow 0 34 64 v l.length (bls l)) (h0 : l ≠ []) (hl : l.length ≤ 5000) :
    Calls Try.prog 33 #[v] w fun e w' => ∃ v', e = .returned v' ∧ Hv w No [blA v' l] w' := by
  obtain ⟨i0, hi0, hz0, hz1, hz2⟩ := infoBlock
  rcases h.2 with ⟨rfl, hn⟩ | ⟨g, cap, cur, rfl, _, hh, hnc, _⟩
  · exact absurd (List.eq_nil_of_length_eq_zero hn) h0
  · have hc := AnyE.slices_Clone cloneB i0 _ 64 64 hi0 hz0 hz1 hz2 (by show (markC 0).toArray.size = 64; simp [markC_length]) (by decide) sizeOfBlock g 0 l.length cap (bls l) w (bls_length l) (by unfold maxLen; omega) (by omega) (fun j u hu => by
      have hj : j < (bls l).length := (List.getElem?_eq_some_iff.1 hu).1
      rw [Nat.zero_add, h.cellAt j (by rw [bls_length] at hj; exact hj)]; exact hu) (flat_cell markC markC_cell l)
    refine Calls.mono (R := _) hc ?_
    rintro e w' ⟨v', rfl, hown, hnn, hb⟩
    exact ⟨v', rfl, hv_fresh (blA v' l) (T := fun b => v'.ownBlock = some b) ⟨World.ownsRow.mono hown (Nat.zero_le _), fun _ => Iff.rfl⟩ (fun b hb' => (World.ownsRow.lt hown b hb').1) hb⟩
theorem clone_wr {v : Value} (l : List Wr) (w : World) (h : w.ownsRow 0 66 65 v l.length (wrs l)) (h0 : l = [] → v = .slice none 0 0) (hl : l.length ≤ 100000) :
    Calls Try.prog 44 #[v] w fun e w' => ∃ v', e = .returned v' ∧ Hv w No [wrA v' l] w' ∧ (l = [] → v' = .slice none 0 0) := by
  obtain ⟨i0, hi0, hz0, hz1, hz2⟩ := infoWr
  rcases h.2 with ⟨rfl, hn⟩ | ⟨g, cap, cur, rfl, _, hh, hnc, _⟩
  · have hnil := List.eq_nil_of_length_eq_zero hn
    subst hnil
    refine (AnyE.slices_Clone_nil cloneW 0 0 w).mono ?_
    rintro e w' ⟨rfl, rfl⟩
    exact ⟨_, rfl, (Hv.begin w').nilRow 66 65, fun _ => rfl⟩
  · have hc := AnyE.slices_Clone cloneW i0 _ 65 72 hi0 hz0 hz1 hz2 (by show (wrC (0, 0)).toArray.size = 65; simp [wrC_length]) (by decide) sizeOfWr g 0 l.length cap (wrs l) w (wrs_length l) (by unfold maxLen; omega) (by omega) (fun j u hu => by
      have hj : j < (wrs l).length := (List.getElem?_eq_some_iff.1 hu).1
      rw [Nat.zero_add, h.cellAt j (by rw [wrs_length] at hj; exact hj)]; exact hu) (flat_cell wrC wrC_cell l)
    refine Calls.mono (R := _) hc ?_
    rintro e w' ⟨v', rfl, hown, hnn, hb⟩
    refine ⟨v', rfl, hv_fresh (wrA v' l) (T := fun b => v'.ownBlock = some b) ⟨World.ownsRow.mono hown (Nat.zero_le _), fun _ => Iff.rfl⟩ (fun b hb' => (World.ownsRow.lt hown b hb').1) hb, fun e => ?_⟩
    have := h0 e
    cases this
theorem clone_int (w : World) : Calls Try.prog 45 #[.slice none 0 0] w fun e w' => e = .returned (.slice none 0 0) ∧ w' = w := AnyE.slices_Clone_nil cloneI 0 0 w
end Go.Proofs.Ytbfmgdkiigkioaa

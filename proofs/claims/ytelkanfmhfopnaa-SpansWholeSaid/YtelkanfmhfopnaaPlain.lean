/- Plain laws of sets of spans: where spans begin, how many there are, and the set so much further on. -/
import Derived.Test.YtelkanfmhfopnaaNew
namespace Go.Proofs.Ytelkanfmhfopnaa
open Go.LawEnd

theorem nodup_sub : ∀ {a b : List Int}, a.Nodup → (∀ x ∈ a, x ∈ b) → a.length ≤ b.length
  | [], _, _, _ => Nat.zero_le _
  | x :: a, b, hn, hs => by
    obtain ⟨h1, h2⟩ := List.nodup_cons.1 hn
    have hx : x ∈ b := hs x (List.mem_cons_self ..)
    have ih := nodup_sub (b := b.erase x) h2 fun y hy => by
      refine (List.mem_erase_of_ne ?_).2 (hs y (List.mem_cons_of_mem _ hy))
      rintro rfl
      exact h1 hy
    have hl := List.length_erase_of_mem hx
    have hp : 0 < b.length := List.length_pos_of_mem hx
    rw [List.length_cons]
    omega
theorem ok_first {l : List Sp} (h : OkS l) {y : Sp} (hy : y ∈ l) : mem l y.1 ∧ ¬ mem l (y.1 - 1) := by
  have hv := h.val y hy
  refine ⟨⟨y, hy, by unfold inn en; omega⟩, ?_⟩
  rintro ⟨z, hz, h1, h2⟩
  obtain ⟨i, hi, rfl⟩ := List.getElem_of_mem hy
  obtain ⟨j, hj, rfl⟩ := List.getElem_of_mem hz
  rcases Nat.lt_trichotomy i j with hij | hij | hij
  · have := (List.pairwise_iff_getElem.1 h.apart) i j hi hj hij
    unfold en at *; omega
  · subst hij; omega
  · have := (List.pairwise_iff_getElem.1 h.apart) j i hj hi hij
    omega
theorem ok_nodup {l : List Sp} (h : OkS l) : (l.map (·.1)).Nodup := by
  refine List.pairwise_map.2 (h.apart.imp_of_mem fun {a b} ha _ hab => ?_)
  have := h.val a ha
  unfold en at *; omega
/-- there are no more spans than were put in -/
theorem newF_length {l : List Sp} (h : ∀ x ∈ l, May x) : (newF l).length ≤ l.length := by
  obtain ⟨h1, h2⟩ := newF_ok h
  have := nodup_sub (ok_nodup h1) (b := l.map (·.1)) fun n hn => by
    obtain ⟨y, hy, rfl⟩ := List.mem_map.1 hn
    obtain ⟨h3, h4⟩ := ok_first h1 hy
    rw [h2] at h3 h4
    obtain ⟨x, hx, h5, h6⟩ := h3
    refine List.mem_map.2 ⟨x, hx, ?_⟩
    by_cases he : x.1 = y.1
    · exact he
    · exact absurd ⟨x, hx, by omega, by unfold en at *; omega⟩ h4
  simpa using this
def shf (b : Int) (x : Sp) : Sp := (x.1 + b, x.2)
theorem mem_shf {l : List Sp} {b n : Int} : mem (l.map (shf b)) n ↔ mem l (n - b) := by
  constructor
  · rintro ⟨y, hy, h1, h2⟩
    obtain ⟨x, hx, rfl⟩ := List.mem_map.1 hy
    unfold shf en at *
    exact ⟨x, hx, by simp at h1; omega, by unfold en; simp at h2; omega⟩
  · rintro ⟨x, hx, h1, h2⟩
    refine ⟨shf b x, List.mem_map.2 ⟨x, hx, rfl⟩, ?_, ?_⟩
    · unfold shf; simp; omega
    · unfold shf en at *; simp; omega
/-- the set of spans that are all so much further on -/
theorem newF_shf {l : List Sp} {b : Int} (h : ∀ x ∈ l, May x) (h' : ∀ x ∈ l.map (shf b), May x) (hb : 0 ≤ b) : newF (l.map (shf b)) = (newF l).map (shf b) := by
  obtain ⟨h1, h2⟩ := newF_ok h
  obtain ⟨h3, h4⟩ := newF_ok h'
  refine ok_eq h3 ⟨fun y hy => ?_, ?_⟩ fun n => by rw [h4 n, mem_shf, mem_shf, h2]
  · obtain ⟨x, hx, rfl⟩ := List.mem_map.1 hy
    have hv := h1.val x hx
    have hm : mem (newF l) (en x - 1) := ⟨x, hx, by unfold en; omega, by omega⟩
    rw [h2] at hm
    obtain ⟨z, hz, h5, h6⟩ := hm
    have hz' := h' (shf b z) (List.mem_map.2 ⟨z, hz, rfl⟩)
    unfold May shf en at *
    simp at hz' ⊢
    omega
  · refine List.pairwise_map.2 (h1.apart.imp fun {x y} hxy => ?_)
    unfold shf en at *
    simp
    omega
end Go.Proofs.Ytelkanfmhfopnaa

/- What stays between the ledger and the document's ledger, call by call (no program in sight). -/
import Derived.Test.YtieojomabmippaaRef
namespace Go.Proofs.Ytieojomabmippaa
open Go.RowKit Go.LawEnd

theorem ins_had {x : Int} : ∀ {l : List Int}, l.Pairwise (· < ·) → x ∈ l → ins x l = l
  | [], _, h => by cases h
  | y :: l, hs, h => by
    obtain ⟨h1, h2⟩ := List.pairwise_cons.1 hs
    unfold ins
    by_cases hxy : x = y
    · subst hxy
      rw [if_neg (Int.lt_irrefl _), if_pos rfl]
    · have hm : x ∈ l := (List.mem_cons.1 h).resolve_left hxy
      have := h1 x hm
      rw [if_neg (by omega), if_neg hxy, ins_had h2 hm]
def GoodL (B : Int) (l : List Int) : Prop := l.Pairwise (· < ·) ∧ (l = [-1] ∨ ∀ x ∈ l, 0 ≤ x ∧ x < B)
structure LInv (n : Nat) (B : Int) (k : Nat) (L : Lg) (R : List Pr) : Prop where
  blocks : L.blocks = B
  len : L.sets.length = n
  good : ∀ (i : Nat) l, L.sets[i]? = some l → GoodL B l
  same : ∀ (i : Nat) l, L.sets[i]? = some l → ∀ x, ((i : Int), x) ∈ R ↔ x ∈ l
  rlen : R.length ≤ k
theorem inv_new (n : Nat) (B : Int) : LInv n B 0 (L0 n B) [] := ⟨rfl, List.length_replicate .., fun i l h => by
  rw [List.eq_of_mem_replicate (List.mem_of_getElem? h)]; exact ⟨List.Pairwise.nil, .inr fun _ h => by cases h⟩, fun i l h x => by
  rw [List.eq_of_mem_replicate (List.mem_of_getElem? h)]; simp, Nat.le_refl _⟩
section
variable {n k : Nat} {B : Int} {L : Lg} {R : List Pr}
theorem LInv.mono {k' : Nat} (h : LInv n B k L R) (hk : k ≤ k') : LInv n B k' L R := ⟨h.blocks, h.len, h.good, h.same, Nat.le_trans h.rlen hk⟩
theorem LInv.at_ (h : LInv n B k L R) {i : Nat} (hi : i < n) : ∃ l, L.sets[i]? = some l := ⟨_, List.getElem?_eq_getElem (by rw [h.len]; exact hi)⟩
theorem set_get {α : Type} {l : List α} {i j : Nat} {x y : α} (h : (l.set i x)[j]? = some y) : (i = j ∧ y = x) ∨ (i ≠ j ∧ l[j]? = some y) := by
  by_cases hij : i = j
  · subst hij
    have hl : i < (l.set i x).length := (List.getElem?_eq_some_iff.1 h).1
    rw [List.length_set] at hl
    rw [List.getElem?_set_self hl] at h
    exact .inl ⟨rfl, (Option.some.inj h).symm⟩
  · rw [List.getElem?_set_ne hij] at h
    exact .inr ⟨hij, h⟩
theorem LInv.turn (h : LInv n B k L R) {i : Nat} {l : List Int} {R' : List Pr} {k' : Nat} (hl : GoodL B l) (h1 : ∀ x, ((i : Int), x) ∈ R' ↔ x ∈ l) (h2 : ∀ (j : Nat) x, j ≠ i → (((j : Int), x) ∈ R' ↔ ((j : Int), x) ∈ R)) (hr : R'.length ≤ k') : LInv n B k' (putS L i l) R' := by
  refine ⟨h.blocks, by simp [putS, h.len], fun j l' hj => ?_, fun j l' hj x => ?_, hr⟩
  · rcases set_get hj with ⟨_, rfl⟩ | ⟨_, hj⟩
    · exact hl
    · exact h.good j l' hj
  · rcases set_get hj with ⟨rfl, rfl⟩ | ⟨hne, hj⟩
    · exact h1 x
    · rw [h2 j x (Ne.symm hne)]; exact h.same j l' hj x
theorem mem_offS {i j x : Int} : (j, x) ∈ offS i R ↔ j ≠ i ∧ (j, x) ∈ R := by
  unfold offS
  simp [List.mem_filter, and_comm]
theorem offS_le {i : Int} : (offS i R).length ≤ R.length := List.length_filter_le _ _
theorem LInv.any (h : LInv n B k L R) {i : Nat} : LInv n B (k + 1) (putS L i [-1]) (offS i R ++ [((i : Int), -1)]) := by
  refine h.turn ⟨by simp, .inl rfl⟩ (fun x => ?_) (fun j x hj => ?_) (by have := offS_le (R := R) (i := i); have := h.rlen; simp; omega)
  · rw [List.mem_append, mem_offS]; simp
  · rw [List.mem_append, mem_offS]
    have hj2 : ¬ (j : Int) = i := by omega
    simp [hj2]
theorem LInv.scrub (h : LInv n B k L R) {i : Nat} : LInv n B (k + 1) (putS L i []) (offS i R) := by
  refine h.turn ⟨List.Pairwise.nil, .inr fun _ h => by cases h⟩ (fun x => ?_) (fun j x hj => ?_) (by have := offS_le (R := R) (i := i); have := h.rlen; omega)
  · rw [mem_offS]; simp
  · rw [mem_offS]
    have hj2 : ¬ (j : Int) = i := by omega
    simp [hj2]
theorem LInv.off (h : LInv n B k L R) {s : Int} (hs : ¬ (0 ≤ s ∧ s < (n : Int))) : LInv n B (k + 1) L (offS s R) := by
  refine ⟨h.blocks, h.len, h.good, fun i l hi x => ?_, by have := offS_le (R := R) (i := s); have := h.rlen; omega⟩
  have hl : i < L.sets.length := (List.getElem?_eq_some_iff.1 hi).1
  rw [h.len] at hl
  rw [mem_offS, h.same i l hi x]
  have : (i : Int) ≠ s := by omega
  simp [this]
theorem LInv.had (h : LInv n B k L R) {i : Nat} {l : List Int} (hl : L.sets[i]? = some l) {x : Int} (hm : x ∈ l) : LInv n B (k + 1) (putS L i (ins x l)) R := by
  rw [ins_had (h.good i l hl).1 hm, putS_same hl]
  exact h.mono (Nat.le_succ _)
theorem LInv.ins (h : LInv n B k L R) {i : Nat} {l : List Int} (hl : L.sets[i]? = some l) {x : Int} (hx : 0 ≤ x ∧ x < B) (hn : ¬ (-1 : Int) ∈ l) : LInv n B (k + 1) (putS L i (ins x l)) (R ++ [((i : Int), x)]) := by
  obtain ⟨g1, g2⟩ := h.good i l hl
  have g3 : ∀ y ∈ l, 0 ≤ y ∧ y < B := g2.resolve_left (fun e => hn (by rw [e]; simp))
  refine h.turn ⟨sorted_ins g1, .inr fun y hy => ?_⟩ (fun y => ?_) (fun j y hj => ?_) (by have := h.rlen; simp; omega)
  · rcases mem_ins.1 hy with rfl | hy
    · exact hx
    · exact g3 y hy
  · rw [List.mem_append, mem_ins, h.same i l hl y]
    simp [or_comm]
  · rw [List.mem_append]
    have hj2 : ¬ (j : Int) = i := by omega
    simp [hj2]
end
/-- a call: is it Scrub, its slot, its block -/
abbrev Oq := Bool × Int × Int
end Go.Proofs.Ytieojomabmippaa

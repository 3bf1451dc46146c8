/- A map of ints to struct{} that the call makes, told as a rising list; over any program. -/
import Derived.Maps.OwnSet
import Derived.WideKeyEntry
import Derived.Lib.SlKeysI
import Derived.Test.YtieojomabmippaaMapInt
namespace Go.LawEnd
open Go.RowKit Go.Maps Go.WideElems

/-- a rising list gets one more -/
def ins (x : Int) : List Int → List Int
  | [] => [x]
  | y :: l => if x < y then x :: y :: l else if x = y then y :: l else y :: ins x l
theorem mem_ins {x y : Int} : ∀ {l : List Int}, y ∈ ins x l ↔ y = x ∨ y ∈ l
  | [] => by simp [ins]
  | z :: l => by
    unfold ins
    split
    · simp
    · split
      · rename_i h; subst h; simp
      · rw [List.mem_cons, mem_ins, List.mem_cons]
        constructor
        · rintro (h | h | h)
          · exact .inr (.inl h)
          · exact .inl h
          · exact .inr (.inr h)
        · rintro (h | h | h)
          · exact .inr (.inl h)
          · exact .inl h
          · exact .inr (.inr h)
theorem sorted_ins {x : Int} : ∀ {l : List Int}, l.Pairwise (· < ·) → (ins x l).Pairwise (· < ·)
  | [], _ => by simp [ins]
  | z :: l, h => by
    obtain ⟨h1, h2⟩ := List.pairwise_cons.1 h
    unfold ins
    split
    · rename_i hx
      refine List.pairwise_cons.2 ⟨fun y hy => ?_, h⟩
      rcases List.mem_cons.1 hy with rfl | hy
      · exact hx
      · exact Int.lt_trans hx (h1 y hy)
    · split
      · exact h
      · rename_i hx hx2
        refine List.pairwise_cons.2 ⟨fun y hy => ?_, sorted_ins h2⟩
        rcases mem_ins.1 hy with rfl | hy
        · omega
        · exact h1 y hy
theorem length_ins {x : Int} : ∀ {l : List Int}, (ins x l).length ≤ l.length + 1
  | [] => by simp [ins]
  | z :: l => by
    unfold ins
    split
    · simp
    · split
      · simp
      · have := length_ins (x := x) (l := l); simp; omega

/-- block b is a set of at most n entries that holds just l -/
def SetAt (P : Program) (k : TypeId) (w : World) (b n : Nat) (l : List Int) : Prop :=
  (∃ D : DataW Unit, w.ownsMap P k unitElem b n D ∧ IsMap D ∧ ∀ x, has D (.int .i64 x) = decide (x ∈ l)) ∧ l.Pairwise (· < ·) ∧ ∀ x ∈ l, (Lit.int .i64 x).wf = true

section
variable {P : Program} {t k e : TypeId} {w w' : World} {b n : Nat} {l : List Int}
theorem SetAt.lt (h : SetAt P k w b n l) : b < w.heap.size := by obtain ⟨⟨D, ho, _⟩, _⟩ := h; exact ho.lt
theorem SetAt.obj (h : SetAt P k w b n l) : ∃ es c, w.heap[b]? = some (.map es c) := by obtain ⟨⟨D, ⟨es, c, hb, _⟩, _⟩, _⟩ := h; exact ⟨es, c, hb⟩
theorem SetAt.of_block (h : SetAt P k w b n l) (hb : w'.heap[b]? = w.heap[b]?) : SetAt P k w' b n l := by
  obtain ⟨⟨D, ho, r⟩, q⟩ := h
  exact ⟨⟨D, ownsMap_of_block ho hb, r⟩, q⟩
theorem SetAt.mono {m : Nat} (h : SetAt P k w b n l) (hm : n ≤ m) : SetAt P k w b m l := by obtain ⟨⟨D, ho, r⟩, q⟩ := h; exact ⟨⟨D, ho.mono hm, r⟩, q⟩
theorem SetAt.made (w : World) (P : Program) (k : TypeId) : SetAt P k (w.alloc (.map #[] 0)) w.heap.size 0 [] :=
  ⟨⟨.map [], World.ownsMap_made w P k _, isMap_empty, fun x => rfl⟩, List.Pairwise.nil, fun _ h => by cases h⟩
theorem SetAt.run_look (h : SetAt P k w b n l) (K : Keyed P k) (ht : P.underlying t = some (.map k e)) (hk : P.underlying k = some (.int .i64)) (hz : ∀ u : World, (zeroValue e).run P u = .ok (.agg #[]) u)
    {x : Int} (hx : (Lit.int .i64 x).wf = true) : (Instr.lookup t (.map (some b)) (.int .i64 x) true).run P w = .ok (.tuple #[.agg #[], .bool (decide (x ∈ l))]) w := by
  obtain ⟨⟨D, ho, hm, hh⟩, _⟩ := h
  obtain ⟨v, ps, hr, hv⟩ := ho.look_ok K ht (hz w) unitElem_mk (keyOf_int_mk hk hx)
  obtain ⟨rfl, _⟩ := unitElem_inv hv
  rw [hr, hh x]
theorem SetAt.run_put (h : SetAt P k w b n l) (K : Keyed P k) (ht : P.underlying t = some (.map k e)) (hk : P.underlying k = some (.int .i64)) (hn : n < maxLen) {x : Int} (hx : (Lit.int .i64 x).wf = true) :
    ∃ w', (Instr.mapUpdate t (.map (some b)) (.int .i64 x) (.agg #[])).run P w = .ok () w' ∧ SetAt P k w' b (n + 1) (ins x l) ∧ Ch (fun i => i = b) w w' := by
  obtain ⟨⟨D, ho, hm, hh⟩, hs, hw⟩ := h
  obtain ⟨w', hr, ho', hg⟩ := ho.update K ht hn (keyOf_int_mk hk hx) unitElem_mk
  refine ⟨w', hr, ⟨⟨_, ho', ?_, fun y => ?_⟩, sorted_ins hs, fun y hy => ?_⟩, ⟨hg.os, hg.tape, hg.output, hg.size, fun i hi hne => hg.block i hi (fun e => hne (Option.some.inj e))⟩⟩
  · obtain ⟨es, rfl⟩ := hm; exact ⟨_, rfl⟩
  · by_cases hxy : y = x
    · subst hxy; rw [has_put_same hm (isKey_int _), decide_eq_true (mem_ins.2 (.inl rfl))]
    · rw [has_put_other (by simpa using hxy), hh]
      exact decide_eq_decide.2 ⟨fun h => mem_ins.2 (.inr h), fun h => (mem_ins.1 h).resolve_left hxy⟩
  · rcases mem_ins.1 hy with rfl | hy
    · exact hx
    · exact hw y hy
theorem SetAt.run_clear (h : SetAt P k w b n l) (ht : P.underlying t = some (.map k e)) :
    ∃ w', (∀ ty : TypeId, (Builtin.clear_ #[t] ty #[.map (some b)]).run P w = .ok (.tuple #[]) w') ∧ SetAt P k w' b 0 [] ∧ Ch (fun i => i = b) w w' := by
  obtain ⟨es, c, hb⟩ := h.obj
  obtain ⟨⟨D, ⟨es', c', hb', F, hs, hD⟩, hm, hh⟩, _⟩ := h
  rw [hb] at hb'
  injection hb' with hb'
  injection hb' with h1 h2
  subst h1
  subst h2
  refine ⟨ChangeMaps.setBlock w b (.map #[] c), ?_, ?_, ?_⟩
  · intro ty
    simp [Builtin.clear_, run_underlying ht, MapKept.run_getObj_map hb, MapKept.run_setObj_map _ hb, Result.andThen, ChangeMaps.setBlock]
  · refine ⟨⟨.map [], ⟨#[], c, ChangeMaps.heap_setBlock_same hb _, ?_, Nat.le_refl _, rfl⟩, isMap_empty, fun x => rfl⟩, List.Pairwise.nil, fun _ h => by cases h⟩
    refine ⟨by unfold maxLen; simp, (MapKept.stamped_iff #[] c).2 ⟨fun x hx => by simp at hx, by simp, by simp⟩, fun x hx => by simp at hx⟩
  · exact ⟨rfl, rfl, rfl, by simp [ChangeMaps.setBlock], fun i _ hi => ChangeMaps.heap_setBlock_other hb _ hi⟩
end
end Go.LawEnd

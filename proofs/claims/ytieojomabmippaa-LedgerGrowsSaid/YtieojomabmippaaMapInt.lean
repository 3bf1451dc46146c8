/- A map of ints to ints that the call makes, told as a function; over any program. -/
import Derived.Maps.OwnSet
import Derived.WideKeyEntry
import Derived.Test.YtieojomabmippaaCh
namespace Go.LawEnd
open Go.RowKit Go.Maps Go.WideElems

def upd (f : Int → Option Int) (x v : Int) : Int → Option Int := fun y => if y = x then some v else f y
def era (f : Int → Option Int) (x : Int) : Int → Option Int := fun y => if y = x then none else f y

/-- block b is a map of at most n entries that holds just what f tells -/
def MapAt (P : Program) (k e : TypeId) (w : World) (b n : Nat) (f : Int → Option Int) : Prop :=
  ∃ D : DataW Unit, w.ownsMap P k (plainElem P e) b n D ∧ IsMap D ∧ (∀ x, has D (.int .i64 x) = (f x).isSome) ∧ ∀ x v, f x = some v → ∀ z, D.atKey (.int .i64 x) z = .lit (.int .i64 v)

section
variable {P : Program} {t k e : TypeId} {w w' : World} {b n : Nat} {f : Int → Option Int}
theorem MapAt.lt (h : MapAt P k e w b n f) : b < w.heap.size := by obtain ⟨D, ho, _⟩ := h; exact ho.lt
theorem MapAt.mono {m : Nat} (h : MapAt P k e w b n f) (hm : n ≤ m) : MapAt P k e w b m f := by obtain ⟨D, ho, r⟩ := h; exact ⟨D, ho.mono hm, r⟩
theorem MapAt.obj (h : MapAt P k e w b n f) : ∃ es c, w.heap[b]? = some (.map es c) := by obtain ⟨D, ⟨es, c, hb, _⟩, _⟩ := h; exact ⟨es, c, hb⟩
theorem ownsMap_of_block {R : Value → Option (DataW Unit × List MemPlace)} {D : DataW Unit} (h : w.ownsMap P k R b n D) (hb : w'.heap[b]? = w.heap[b]?) : w'.ownsMap P k R b n D := by
  obtain ⟨es, c, h1, r⟩ := h
  exact ⟨es, c, hb.trans h1, r⟩
theorem MapAt.of_block (h : MapAt P k e w b n f) (hb : w'.heap[b]? = w.heap[b]?) : MapAt P k e w' b n f := by
  obtain ⟨D, ho, r⟩ := h
  exact ⟨D, ownsMap_of_block ho hb, r⟩
theorem MapAt.ch {S : Nat → Prop} (h : MapAt P k e w b n f) (hc : Ch S w w') (hb : ¬ S b) : MapAt P k e w' b n f := h.of_block (hc.block b h.lt hb)
theorem MapAt.below {B : Nat} (h : MapAt P k e w b n f) (hb : Below B w w') (hB : b < B) : MapAt P k e w' b n f := h.of_block (hb.block b hB)
theorem MapAt.ne_blk {g : Nat} {T : TypeId} {cs : Array Value} (h : MapAt P k e w b n f) (hk : Blk w g T cs) : g ≠ b := by
  rintro rfl
  obtain ⟨es, c, hb⟩ := h.obj
  unfold Blk at hk
  rw [hk] at hb
  cases hb
theorem MapAt.made (w : World) (P : Program) (k e : TypeId) : MapAt P k e (w.alloc (.map #[] 0)) w.heap.size 0 (fun _ => none) :=
  ⟨.map [], World.ownsMap_made w P k _, isMap_empty, fun x => rfl, fun x v h => by cases h⟩
theorem isKey_int (x : Int) : WideAt.IsKeyLit (.int .i64 x) := trivial

theorem MapAt.run_look (h : MapAt P k e w b n f) (K : Keyed P k) (ht : P.underlying t = some (.map k e)) (he : P.underlying e = some (.int .i64)) (hk : P.underlying k = some (.int .i64)) (hz : ∀ u : World, (zeroValue e).run P u = .ok (.int .i64 0) u)
    {x : Int} (hx : (Lit.int .i64 x).wf = true) : (Instr.lookup t (.map (some b)) (.int .i64 x) true).run P w = .ok (.tuple #[.int .i64 ((f x).getD 0), .bool (f x).isSome]) w := by
  obtain ⟨D, ho, hm, hh, ha⟩ := h
  obtain ⟨v, ps, hr, hv⟩ := ho.look_ok K ht (hz w) (plainElem_int he (by decide)) (keyOf_int_mk hk hx)
  obtain ⟨c, rfl, hc, _⟩ := plainElem_int_inv he hv
  have hc' : D.atKey (.int .i64 x) (.lit (.int .i64 0)) = .lit (.int .i64 c) := congrArg Prod.fst hc
  rw [hr, hh x]
  cases hf : f x with
  | none =>
    have hn : has D (.int .i64 x) = false := by rw [hh, hf]; rfl
    rw [atKey_of_not_has hn] at hc'
    injection hc' with hc'
    injection hc' with _ hc'
    rw [← hc']; rfl
  | some y =>
    rw [ha x y hf] at hc'
    injection hc' with hc'
    injection hc' with _ hc'
    rw [← hc']; rfl

theorem MapAt.run_drop (h : MapAt P k e w b n f) (K : Keyed P k) (ht : P.underlying t = some (.map k e)) (hk : P.underlying k = some (.int .i64)) (ty : TypeId) {x : Int} (hx : (Lit.int .i64 x).wf = true) :
    ∃ w', (Builtin.delete_ #[t, k] ty #[.map (some b), .int .i64 x]).run P w = .ok (.tuple #[]) w' ∧ MapAt P k e w' b n (era f x) ∧ Ch (fun i => i = b) w w' ∧ w'.heap.size = w.heap.size := by
  obtain ⟨D, ho, hm, hh, ha⟩ := h
  obtain ⟨w', hr, ho', ht'⟩ := ho.drop K ht (keyOf_int_mk hk hx) ty
  have hg := ht'.grown
  refine ⟨w', hr, ⟨_, ho', ?_, fun y => ?_, fun y v hy z => ?_⟩, ⟨hg.os, hg.tape, hg.output, hg.size, fun i hi hne => hg.block i hi (fun e => hne (Option.some.inj e))⟩, ?_⟩
  · obtain ⟨es, rfl⟩ := hm; exact ⟨_, rfl⟩
  · unfold era
    by_cases hxy : y = x
    · subst hxy; rw [has_del_same]; simp
    · rw [has_del_other (by simpa using hxy), hh, if_neg hxy]
  · unfold era at hy
    by_cases hxy : y = x
    · rw [if_pos hxy] at hy; cases hy
    · rw [if_neg hxy] at hy
      rw [atKey_del_other (by simpa using hxy)]
      exact ha y v hy z
  · obtain ⟨es, c, es', c', hb, rfl⟩ := ht'
    simp [ChangeMaps.setBlock]

theorem MapAt.run_put (h : MapAt P k e w b n f) (K : Keyed P k) (ht : P.underlying t = some (.map k e)) (he : P.underlying e = some (.int .i64)) (hk : P.underlying k = some (.int .i64)) (hn : n < maxLen) {x v : Int} (hx : (Lit.int .i64 x).wf = true) (hv : (Lit.int .i64 v).wf = true) :
    ∃ w', (Instr.mapUpdate t (.map (some b)) (.int .i64 x) (.int .i64 v)).run P w = .ok () w' ∧ MapAt P k e w' b (n + 1) (upd f x v) ∧ Ch (fun i => i = b) w w' := by
  obtain ⟨D, ho, hm, hh, ha⟩ := h
  obtain ⟨w', hr, ho', hg⟩ := ho.update K ht hn (keyOf_int_mk hk hx) (plainElem_int he hv)
  refine ⟨w', hr, ⟨_, ho', ?_, fun y => ?_, fun y u hy z => ?_⟩, ⟨hg.os, hg.tape, hg.output, hg.size, fun i hi hne => hg.block i hi (fun e => hne (Option.some.inj e))⟩⟩
  · obtain ⟨es, rfl⟩ := hm; exact ⟨_, rfl⟩
  · unfold upd
    by_cases hxy : y = x
    · subst hxy; rw [has_put_same hm (isKey_int _)]; simp
    · rw [has_put_other (by simpa using hxy), hh, if_neg hxy]
  · unfold upd at hy
    by_cases hxy : y = x
    · subst hxy
      rw [if_pos rfl] at hy
      injection hy with hy
      subst hy
      exact atKey_put_same hm (isKey_int _) _ z
    · rw [if_neg hxy] at hy
      rw [atKey_put_other (by simpa using hxy)]
      exact ha y u hy z

/-- 'm[x] = v' in two steps: the entry is made, and then what it holds. -/
theorem MapAt.run_entry (h : MapAt P k e w b n f) (K : Keyed P k) (ht : P.underlying t = some (.map k e)) (he : P.underlying e = some (.int .i64)) (hk : P.underlying k = some (.int .i64)) (hz : ∀ u : World, (zeroValue e).run P u = .ok (.int .i64 0) u) (hn : n < maxLen) {x v : Int} (hx : (Lit.int .i64 x).wf = true) (hv : (Lit.int .i64 v).wf = true) :
    ∃ (v0 : Value) (st : Nat) (o1 o2 : Obj), (∀ W : World, W.heap[b]? = w.heap[b]? → (Instr.mapEntry t (.map (some b)) (.int .i64 x)).run P W = .ok (.tuple #[v0, goInt st]) (ChangeMaps.setBlock W b o1)) ∧
      (∀ W : World, W.heap[b]? = some o1 → (Instr.entryStore t (.map (some b)) (goInt st) (.int .i64 v)).run P W = .ok () (ChangeMaps.setBlock W b o2)) ∧
      ∀ W : World, W.heap[b]? = some o2 → MapAt P k e W b (n + 1) (upd f x v) := by
  obtain ⟨w', hrun, hat, hch⟩ := h.run_put (t := t) K ht he hk hn hx hv
  obtain ⟨D, ⟨es, clock, hb, F, hs, hD⟩, _⟩ := h
  have hkey : keyOf P k (.int .i64 x) = some (.int .i64 x) := keyOf_int_mk hk hx
  obtain ⟨s1, s2, s3⟩ := (MapKept.stamped_iff es clock).1 F.stamped
  have hfind : ∀ W : World, ((Instr.findKey k (.int .i64 x) es.toList).run P W = .ok none W ∧ ∀ y ∈ es.toList, y.key ≠ .int .i64 x) ∨ ∃ j y, (Instr.findKey k (.int .i64 x) es.toList).run P W = .ok (some (j, y.val)) W ∧ es.toList[j]? = some y ∧ y.key = .int .i64 x := fun W => K.find W hkey es.toList F.keys
  rcases hfind w with ⟨_, h2⟩ | ⟨j, e0, _, h2, h3⟩
  · refine ⟨.int .i64 0, clock, .map (es.push ⟨.int .i64 x, .int .i64 0, clock⟩) (clock + 1), .map (es.push ⟨.int .i64 x, .int .i64 v, clock⟩) (clock + 1), fun W hW => ?_, fun W hW => ?_, fun W hW => ?_⟩
    · have hb' := hW.trans hb
      have h1 : (Instr.findKey k (.int .i64 x) es.toList).run P W = .ok none W := by
        rcases hfind W with ⟨h, _⟩ | ⟨j, y, _, hy, hyx⟩
        · exact h
        · exact absurd hyx (h2 y (List.mem_of_getElem? hy))
      simp [Instr.mapEntry, run_underlying ht, MapKept.run_getObj_map hb', K.check W false hkey, h1, hz, MapKept.run_setObj_map _ hb', Result.andThen, ChangeMaps.setBlock]
    · have hidx : (es.push ⟨.int .i64 x, .int .i64 0, clock⟩).findIdx? (fun y => ((y.born : Nat) : Int) == ((clock : Nat) : Int)) = some es.size := by
        rw [findIdx_arr]
        exact findIdx_born (l := (es.push ⟨.int .i64 x, .int .i64 0, clock⟩).toList) (j := es.size) (e0 := ⟨.int .i64 x, .int .i64 0, clock⟩) (by
          simp only [Array.toList_push, List.map_append, List.map_cons, List.map_nil]
          refine List.nodup_append.2 ⟨s2, by simp, fun a ha c hc e1 => ?_⟩
          simp only [List.mem_singleton] at hc
          obtain ⟨y, hy, rfl⟩ := List.mem_map.1 ha
          have := s1 y hy
          omega) (by simp)
      have hmod : (es.push ⟨.int .i64 x, .int .i64 0, clock⟩).modify es.size (fun y => { y with val := .int .i64 v }) = es.push ⟨.int .i64 x, .int .i64 v, clock⟩ := by
        apply Array.ext'
        rw [Array.toList_modify, Array.toList_push, Array.toList_push, ← Array.length_toList, modify_last]
      simp [Instr.entryStore, MapKept.run_getObj_map hW, asInt, asIntOf, goInt, hidx, hmod, MapKept.run_setObj_map _ hW, Result.andThen, ChangeMaps.setBlock]
    · have h1 : (Instr.findKey k (.int .i64 x) es.toList).run P w = .ok none w := by
        rcases hfind w with ⟨h, _⟩ | ⟨j, y, _, hy, hyx⟩
        · exact h
        · exact absurd hyx (h2 y (List.mem_of_getElem? hy))
      have hr2 : (Instr.mapUpdate t (.map (some b)) (.int .i64 x) (.int .i64 v)).run P w = .ok () (ChangeMaps.setBlock w b (.map (es.push ⟨.int .i64 x, .int .i64 v, clock⟩) (clock + 1))) := by
        simp [Instr.mapUpdate, run_underlying ht, MapKept.run_getObj_map hb, K.check w false hkey, h1, MapKept.run_setObj_map _ hb, Result.andThen, ChangeMaps.setBlock]
      rw [hrun] at hr2
      injection hr2 with _ hr2
      subst hr2
      exact hat.of_block (hW.trans (MapKept.heap_set hb).1.symm)
  · have hj : es[j]? = some e0 := by simpa using h2
    have hne : es.toList.Pairwise fun p q => p.key ≠ q.key := s3
    have h1 : ∀ W : World, (Instr.findKey k (.int .i64 x) es.toList).run P W = .ok (some (j, e0.val)) W := fun W => by
      rcases hfind W with ⟨_, hn⟩ | ⟨j', y, h, hy, hyx⟩
      · exact absurd h3 (hn e0 (List.mem_of_getElem? h2))
      · have hjj : j' = j := by
          obtain ⟨l1, g1⟩ := List.getElem?_eq_some_iff.1 hy
          obtain ⟨l2, g2⟩ := List.getElem?_eq_some_iff.1 h2
          rcases Nat.lt_trichotomy j' j with hlt | heq | hgt
          · exact absurd (by rw [g1, g2, hyx, h3]) (List.pairwise_iff_getElem.1 hne j' j l1 l2 hlt)
          · exact heq
          · exact absurd (by rw [g1, g2, hyx, h3]) (List.pairwise_iff_getElem.1 hne j j' l2 l1 hgt)
        subst hjj
        rw [h2] at hy
        injection hy with hy
        subst hy
        exact h
    have hsame : es.modify j (fun y => { y with key := .int .i64 x }) = es := by
      apply Array.ext'
      rw [Array.toList_modify, ChangeMaps.modify_eq_set _ _ _ _ h2]
      have : ({ e0 with key := .int .i64 x } : MapEntry) = e0 := by rw [← h3]
      rw [this]
      exact set_self _ _ _ h2
    refine ⟨e0.val, e0.born, .map es clock, .map (es.modify j (fun y => { y with key := .int .i64 x, val := .int .i64 v })) clock, fun W hW => ?_, fun W hW => ?_, fun W hW => ?_⟩
    · have hb' := hW.trans hb
      simp [Instr.mapEntry, run_underlying ht, MapKept.run_getObj_map hb', K.check W false hkey, h1 W, hj, h3, K.stays W hkey, hsame, MapKept.run_setObj_map _ hb', Result.andThen, ChangeMaps.setBlock]
    · have hidx : es.findIdx? (fun y => ((y.born : Nat) : Int) == ((e0.born : Nat) : Int)) = some j := by
        rw [findIdx_arr]
        exact findIdx_born s2 h2
      have hmod : es.modify j (fun y => { y with val := .int .i64 v }) = es.modify j (fun y => { y with key := .int .i64 x, val := .int .i64 v }) := by
        apply Array.ext'
        rw [Array.toList_modify, Array.toList_modify, ChangeMaps.modify_eq_set _ _ _ _ h2, ChangeMaps.modify_eq_set _ _ _ _ h2, ← h3]
      simp [Instr.entryStore, MapKept.run_getObj_map hW, asInt, asIntOf, goInt, hidx, hmod, MapKept.run_setObj_map _ hW, Result.andThen, ChangeMaps.setBlock]
    · have hr2 : (Instr.mapUpdate t (.map (some b)) (.int .i64 x) (.int .i64 v)).run P w = .ok () (ChangeMaps.setBlock w b (.map (es.modify j (fun y => { y with key := .int .i64 x, val := .int .i64 v })) clock)) := by
        simp [Instr.mapUpdate, run_underlying ht, MapKept.run_getObj_map hb, K.check w false hkey, h1 w, hj, h3, K.stays w hkey, MapKept.run_setObj_map _ hb, Result.andThen, ChangeMaps.setBlock]
      rw [hrun] at hr2
      injection hr2 with _ hr2
      subst hr2
      exact hat.of_block (hW.trans (MapKept.heap_set hb).1.symm)
end
end Go.LawEnd

/- What a crash leaves of a sector; rows of calls. -/
import Derived.Test.YtbfmgdkiigkioaaCrashes
namespace Go.Proofs.Ytbfmgdkiigkioaa
open Go.RowKit Go.LawEnd

/-- a call as a write -/
def toW (o : Cl) : Wr := (o.2.1, o.2.2 % 256)
def opC (o : Cl) : List Value := [.int .i64 o.1, .int .i64 o.2.1, .int .i64 o.2.2]
def opsC (l : List Cl) : List Value := l.flatMap opC
theorem opC_length (o : Cl) : (opC o).length = 3 := rfl
theorem opsC_append (l : List Cl) (o : Cl) : opsC (l ++ [o]) = opsC l ++ opC o := by unfold opsC; rw [List.flatMap_append]; simp
abbrev opA (v : Value) (l : List Cl) : Atom := rowA v 31 3 l.length (opsC l)
theorem infoOp : ∃ i : TypeInfo, Try.prog.info? 31 = some i ∧ i.zero = some (.agg #[.int .i64 0, .int .i64 0, .int .i64 0]) ∧ i.size = 3 ∧ i.bytes = 24 := by
  have h : ((Try.prog.info? 31).map fun i => (i.zero, i.size, i.bytes)) = some (some (.agg #[.int .i64 0, .int .i64 0, .int .i64 0]), 3, 24) := by kernel_rfl
  cases hi : Try.prog.info? 31 with
  | none => rw [hi] at h; cases h
  | some i =>
    rw [hi] at h
    injection h with h
    injection h with h1 h
    injection h with h2 h3
    exact ⟨i, rfl, h1, h2, h3⟩
theorem infoBool : ∃ i : TypeInfo, Try.prog.info? 4 = some i ∧ i.zero = some (.bool false) ∧ i.size = 1 ∧ i.bytes = 1 := by
  have h : ((Try.prog.info? 4).map fun i => (i.zero, i.size, i.bytes)) = some (some (.bool false), 1, 1) := by kernel_rfl
  cases hi : Try.prog.info? 4 with
  | none => rw [hi] at h; cases h
  | some i =>
    rw [hi] at h
    injection h with h
    injection h with h1 h
    injection h with h2 h3
    exact ⟨i, rfl, h1, h2, h3⟩
section
variable {w0 W : World} {S : Nat → Prop} {L : List Atom} {v : Value}
theorem app_op {l : List Cl} (h : Hv w0 S (opA v l :: L) W) (hl : l.length ≤ 100000) (o : Cl) :
    ∃ g cap w', (Builtin.append_ #[22, 22] 22 #[v, .slice (some ⟨W.heap.size, 0, none⟩) 1 1]).run Try.prog (W.alloc (.cells #[.int .i64 o.1, .int .i64 o.2.1, .int .i64 o.2.2] 31)) = .ok (.slice (some ⟨g, 0, none⟩) (l.length + 1) cap) w' ∧
      Hv w0 S (opA (.slice (some ⟨g, 0, none⟩) (l.length + 1) cap) (l ++ [o]) :: L) w' := by
  obtain ⟨i0, hi0, hz0, hz1, hz2⟩ := infoOp
  obtain ⟨g, cap, w', h1, h2, _, _⟩ := h.append (P := Try.prog) 22 22 31 (i := i0) (bytes := 24) Try.underlying22 hi0 hz0 hz1 hz2 rfl (by omega) 1 (by omega) #[.int .i64 o.1, .int .i64 o.2.1, .int .i64 o.2.2] rfl (by intro u hu; simp at hu; rcases hu with rfl | rfl | rfl <;> rfl) (by unfold maxLen; omega) (by omega)
  refine ⟨g, cap, w', h1, ?_⟩
  have e1 : (l ++ [o]).length = l.length + 1 := by simp
  unfold opA
  rw [e1, opsC_append]
  exact h2
theorem app_true {k : Nat} (h : Hv w0 S (rowA v 4 1 k (List.replicate k (.bool true)) :: L) W) (hl : k ≤ 100000) :
    ∃ g cap w', (Builtin.append_ #[23, 23] 23 #[v, .slice (some ⟨W.heap.size, 0, none⟩) 1 1]).run Try.prog (W.alloc (.cells #[.bool true] 4)) = .ok (.slice (some ⟨g, 0, none⟩) (k + 1) cap) w' ∧
      Hv w0 S (rowA (.slice (some ⟨g, 0, none⟩) (k + 1) cap) 4 1 (k + 1) (List.replicate (k + 1) (.bool true)) :: L) w' := by
  obtain ⟨i0, hi0, hz0, hz1, hz2⟩ := infoBool
  obtain ⟨g, cap, w', h1, h2, _, _⟩ := h.append (P := Try.prog) 23 23 4 (i := i0) (bytes := 1) Try.underlying23 hi0 hz0 hz1 hz2 rfl (by omega) 1 (by omega) #[.bool true] rfl (by intro u hu; simp at hu; subst hu; rfl) (by unfold maxLen; omega) (by omega)
  refine ⟨g, cap, w', h1, ?_⟩
  rw [List.replicate_succ']
  exact h2
theorem rowB_own {k : Nat} (h : W.ownsRow 0 4 1 v k (List.replicate k (.bool true))) : RowB W v (List.replicate k true) := by
  obtain ⟨A, c, rfl⟩ := row_form h
  refine ⟨A, c, by rw [List.length_replicate], fun j hj => ?_⟩
  rw [List.length_replicate] at hj
  rcases h.2 with ⟨_, h0⟩ | ⟨g, cap, cur, e, _, hh, _⟩
  · omega
  · cases e
    refine ⟨g, 0, rfl, lt_of_obj hh, ?_⟩
    rw [Nat.zero_add, h.cellAt j (by omega), List.getElem_replicate, List.getElem?_eq_getElem (by simpa using hj), List.getElem_replicate]
/-- a call of the row lies where the slice says -/
theorem op_cells {w : World} {A : Option Addr} {n c : Nat} {l : List Cl} (h : w.ownsRow 0 31 3 (.slice A n c) l.length (opsC l)) (k : Nat) (hk : k < l.length) :
    ∃ g, A = some ⟨g, 0, none⟩ ∧ w.cell? ⟨g, k * 3, none⟩ = some (.int .i64 l[k].1) ∧ w.cell? ⟨g, k * 3 + 1, none⟩ = some (.int .i64 l[k].2.1) ∧ w.cell? ⟨g, k * 3 + 2, none⟩ = some (.int .i64 l[k].2.2) := by
  obtain ⟨g, e, hr⟩ := flat_range opC 3 opC_length h k hk
  exact ⟨g, e, by have := hr 0 (.int .i64 l[k].1) rfl; rwa [Nat.add_zero] at this, hr 1 (.int .i64 l[k].2.1) rfl, hr 2 (.int .i64 l[k].2.2) rfl⟩
end
theorem kept_all (l : List Wr) : kept l (List.replicate l.length true) = l := by
  induction l with
  | nil => rfl
  | cons a l ih => rw [List.length_cons, List.replicate_succ, kept, ih]; rfl
theorem flush_at (f : List Int) (l : List Wr) (i : Nat) (hi : i < f.length) : (flushL f l)[i]? = f[i]? ∨ ∃ p ∈ l, p.1.toNat = i ∧ (flushL f l)[i]? = some p.2 := by
  induction l generalizing f with
  | nil => exact .inl rfl
  | cons a l ih =>
    have e : flushL f (a :: l) = flushL (f.set a.1.toNat a.2) l := rfl
    rw [e]
    rcases ih (f.set a.1.toNat a.2) (by rw [List.length_set]; exact hi) with h | ⟨p, hp, h1, h2⟩
    · by_cases ha : a.1.toNat = i
      · refine .inr ⟨a, List.mem_cons_self .., ha, ?_⟩
        rw [h, ha, List.getElem?_set_self hi]
      · left
        rw [h, List.getElem?_set_ne ha]
    · exact .inr ⟨p, List.mem_cons_of_mem _ hp, h1, h2⟩
theorem crash_firm (D : Dv) (ks : List Bool) (s : Nat) (hs : s < D.firm.length) (hok : OkD D) : firmAt (crashD D ks) (s : Int) = firmAt D (s : Int) ∨ ∃ p ∈ D.opn, p.1 = (s : Int) ∧ p.2 = firmAt (crashD D ks) (s : Int) := by
  have hs2 : s < (crashD D ks).firm.length := by show s < (flushL _ _).length; rw [flushL_length]; exact hs
  rw [(firmAt_nat hs2).1, (firmAt_nat hs).1]
  rcases flush_at D.firm (kept D.opn ks) s hs with h | ⟨p, hp, h1, h2⟩
  · left
    have h' : (crashD D ks).firm[s]? = D.firm[s]? := h
    rw [List.getElem?_eq_getElem hs2, List.getElem?_eq_getElem hs] at h'
    injection h'
  · right
    have hp' := kept_mem hp
    refine ⟨p, hp', ?_, ?_⟩
    · have := (hok p hp').1
      omega
    · have h' : (crashD D ks).firm[s]? = some p.2 := h2
      rw [List.getElem?_eq_getElem hs2] at h'
      injection h' with h'
      exact h'.symm
/-- has one of the calls the sector as it is now? -/
def hit (s now : Int) (o : Cl) : Bool := o.2.1 == s && decide (o.2.2 % 256 = now)
theorem loses_hit {D : Dv} {O : List Cl} {ks : List Bool} {s : Nat} (hO : D.opn = O.map toW) (hs : s < D.firm.length) (hok : OkD D) :
    (decide (firmAt (crashD D ks) (s : Int) = firmAt D (s : Int)) || O.any (hit (s : Int) (firmAt (crashD D ks) (s : Int)))) = true := by
  rcases crash_firm D ks s hs hok with h | ⟨p, hp, h1, h2⟩
  · rw [decide_eq_true h, Bool.true_or]
  · rw [hO] at hp
    obtain ⟨o, ho, rfl⟩ := List.mem_map.1 hp
    rw [Bool.or_eq_true]
    right
    rw [List.any_eq_true]
    refine ⟨o, ho, ?_⟩
    unfold hit
    have h1' : o.2.1 = (s : Int) := h1
    have h2' : o.2.2 % 256 = firmAt (crashD D ks) (s : Int) := h2
    rw [h1', decide_eq_true h2']
    simp
end Go.Proofs.Ytbfmgdkiigkioaa

/- Writes as values: they are built, laid in rows of their own, appended. -/
import Derived.Test.YtbfmgdkiigkioaaNew
import Derived.Great.BuildSlice
namespace Go.Proofs.Ytbfmgdkiigkioaa
open Go.RowKit Go.LawEnd

theorem built_wr (s z : Int) : Try.prog.built 66 (#[(0, .int .i64 s), (1, .agg (markC z).toArray)] : Array (Nat × Value)).toList = some (wrC (s, z)).toArray := by
  unfold wrC
  simp only []
  rw [markC_eq]
  kernel_rfl
theorem built_rw (s z : Int) : Try.prog.built 74 (#[(0, .int .i64 s), (1, .agg (markC z).toArray)] : Array (Nat × Value)).toList = some (wrC (s, z)).toArray := by
  unfold wrC
  simp only []
  rw [markC_eq]
  kernel_rfl
theorem wrC_cell (p : Wr) : ∀ u ∈ wrC p, u.oneCell' = true := by
  intro u hu
  unfold wrC at hu
  rcases List.mem_cons.1 hu with rfl | h
  · rfl
  · exact markC_cell _ u h
theorem infoWr : ∃ i : TypeInfo, Try.prog.info? 66 = some i ∧ i.zero = some (.agg (wrC (0, 0)).toArray) ∧ i.size = 65 ∧ i.bytes = 72 := by
  have h : ((Try.prog.info? 66).map fun i => (i.zero, i.size, i.bytes)) = some (some (.agg (Value.int .i64 0 :: .int .u8 0 :: List.replicate 63 (.int .u8 0)).toArray), 65, 72) := by kernel_rfl
  cases hi : Try.prog.info? 66 with
  | none => rw [hi] at h; cases h
  | some i =>
    rw [hi] at h
    injection h with h
    injection h with h1 h
    injection h with h2 h3
    exact ⟨i, rfl, by unfold wrC; simp only []; rw [markC_eq]; exact h1, h2, h3⟩
theorem infoRw : ∃ i : TypeInfo, Try.prog.info? 74 = some i ∧ i.zero = some (.agg (wrC (0, 0)).toArray) ∧ i.size = 65 ∧ i.bytes = 72 := by
  have h : ((Try.prog.info? 74).map fun i => (i.zero, i.size, i.bytes)) = some (some (.agg (Value.int .i64 0 :: .int .u8 0 :: List.replicate 63 (.int .u8 0)).toArray), 65, 72) := by kernel_rfl
  cases hi : Try.prog.info? 74 with
  | none => rw [hi] at h; cases h
  | some i =>
    rw [hi] at h
    injection h with h
    injection h with h1 h
    injection h with h2 h3
    exact ⟨i, rfl, by unfold wrC; simp only []; rw [markC_eq]; exact h1, h2, h3⟩
theorem zip_many : ∀ (l : List Value) (k : Nat) (cs : Array Value), (l.zipIdx k).foldl (fun cs x => cs.setIfInBounds x.2 x.1) cs = setMany cs k l
  | [], _, _ => rfl
  | v :: r, k, cs => by rw [List.zipIdx_cons, List.foldl_cons, setMany]; exact zip_many r (k + 1) _
theorem fill_all (n : Nat) (old new : Array Value) (h : new.size = n) (h2 : old.size = n) : Instr.fill (fun i => some (i * n, n)) old [(0, .agg new)] = some new := by
  have e : (Value.agg new).cells = new := rfl
  unfold Instr.fill
  simp only [e, Nat.zero_mul]
  rw [if_neg (by simp [h, h2])]
  unfold Instr.fill
  congr 1
  have h3 : (new.zipIdx).foldl (fun cs x => cs.setIfInBounds x.2 x.1) old = new := by
    rw [← Array.foldl_toList, Array.toList_zipIdx, zip_many, setMany_all (by simp [h, h2])]
  simpa only [Nat.zero_add] using h3
theorem bslice_run (t e : TypeId) (w : World) (new : Array Value) (ie : TypeInfo) (z : Value) (hu : Try.prog.underlying t = some (.slice e)) (hie : Try.prog.info? e = some ie) (hz : ie.zero = some z) (hs : ie.size = new.size) (h0 : 0 < new.size) (h1 : new.size < 100) :
    (Instr.buildSlice t 1 #[(0, .agg new)]).run Try.prog w = .ok (.slice (some ⟨w.heap.size, 0, none⟩) 1 1) (w.alloc (.cells new e)) :=
  run_buildSlice w t e 1 _ new ie z hu hie hz (by rw [hs]; omega) (by rw [hs]; omega) (by rw [hs]; exact fill_all _ _ _ rfl (by simp))
section
variable {ops : Array Oper} {o : Oper} {a : Act} {w w' : World} {v : Value}
theorem step_bslice {K : Act → World → Prop} {Q : Exit → Act → World → Prop} {E : Prop} (hgd : o.guard = none) (t : TypeId) (n : Nat) (x : Operand) (ho : o.op = .buildSlice t n #[(0, x)])
    (hrun : (Instr.buildSlice t n #[(0, a.eval x)]).run Try.prog w = .ok v w') (h : K (a.put o.dst v) w') : if Region.wanted o (yielded ops a.tmps) = true then Oper.wp Try.prog o a w K Q else E := by
  have hw : Region.wanted o (yielded ops a.tmps) = true := by simp [Region.wanted, hgd]
  rw [if_pos hw]
  unfold Oper.wp execOp
  have e : (#[(0, x)] : Array (Nat × Operand)).map (fun (i, x) => (i, a.eval x)) = #[(0, a.eval x)] := by simp
  simp only [ho, Sem.run_bind, Sem.run_pure, Result.andThen_ok, e, hrun]
  exact h
theorem yields_build {S : World → Prop} (hgd : o.guard = none) (t : TypeId) (x y : Operand) (ho : o.op = .build t #[(0, x), (1, y)]) (cells : Array Value)
    (hb : Try.prog.built t (#[(0, a.eval x), (1, a.eval y)] : Array (Nat × Value)).toList = some cells) : YieldsIf Try.prog ops S o (.agg cells) a := by
  have hw : Region.wanted o (yielded ops a.tmps) = true := by simp [Region.wanted, hgd]
  refine .inl ⟨hw, fun w _ => ?_⟩
  unfold execOp
  have e : (#[(0, x), (1, y)] : Array (Nat × Operand)).map (fun (i, x) => (i, a.eval x)) = #[(0, a.eval x), (1, a.eval y)] := by simp
  simp only [ho, Sem.run_bind, Sem.run_pure, Result.andThen_ok, e, run_build w t _ _ hb]
end
theorem wrs_append (l : List Wr) (p : Wr) : wrs (l ++ [p]) = wrs l ++ wrC p := by unfold wrs; rw [List.flatMap_append]; simp
theorem bls_append (l : List Int) (z : Int) : bls (l ++ [z]) = bls l ++ markC z := by unfold bls; rw [List.flatMap_append]; simp
section
variable {w0 W : World} {S : Nat → Prop} {L : List Atom} {v : Value}
theorem app_wr {l : List Wr} (h : Hv w0 S (wrA v l :: L) W) (hl : l.length ≤ 100000) (p : Wr) (te : TypeId) :
    ∃ g cap w', (Builtin.append_ #[60, 60] 60 #[v, .slice (some ⟨W.heap.size, 0, none⟩) 1 1]).run Try.prog (W.alloc (.cells (wrC p).toArray te)) = .ok (.slice (some ⟨g, 0, none⟩) (l.length + 1) cap) w' ∧
      Hv w0 S (wrA (.slice (some ⟨g, 0, none⟩) (l.length + 1) cap) (l ++ [p]) :: L) w' := by
  obtain ⟨i0, hi0, hz0, hz1, hz2⟩ := infoWr
  obtain ⟨g, cap, w', h1, h2, _, _⟩ := h.append (P := Try.prog) 60 60 te (i := i0) (bytes := 72) Try.underlying60 hi0 hz0 hz1 hz2 (by show (wrC (0, 0)).toArray.size = 65; simp [wrC_length]) (by omega) 1 (by omega) (wrC p).toArray (by simp [wrC_length]) (by simpa using wrC_cell p) (by unfold maxLen; omega) (by omega)
  refine ⟨g, cap, w', h1, ?_⟩
  have e1 : (l ++ [p]).length = l.length + 1 := by simp
  unfold wrA
  rw [e1, wrs_append]
  exact h2
end
end Go.Proofs.Ytbfmgdkiigkioaa

/- A range over an iterator that ranges over another one: what a round keeps is told of all blocks that were laid since the iterator began; over any program. -/
import Derived.Test.YtelkanfmhfopnaaSepR
namespace Go.LawEnd
open Go.RowKit

/-- nothing that lies at or beyond B turns, nor what T names -/
structure Stays (B : Nat) (T : Nat → Prop) (W W' : World) : Prop where
  size : W.heap.size ≤ W'.heap.size
  far : ∀ b, B ≤ b → b < W.heap.size → W'.heap[b]? = W.heap[b]?
  near : ∀ b, T b → W'.heap[b]? = W.heap[b]?
theorem Stays.refl (B : Nat) (T : Nat → Prop) (W : World) : Stays B T W W := ⟨Nat.le_refl _, fun _ _ _ => rfl, fun _ _ => rfl⟩
theorem Stays.trans {B : Nat} {T : Nat → Prop} {A D C : World} (h : Stays B T A D) (k : Stays B T D C) : Stays B T A C :=
  ⟨Nat.le_trans h.size k.size, fun b h1 h2 => (k.far b h1 (Nat.lt_of_lt_of_le h2 h.size)).trans (h.far b h1 h2), fun b hb => (k.near b hb).trans (h.near b hb)⟩
theorem Stays.mono {B B' : Nat} {T : Nat → Prop} {A D : World} (h : Stays B T A D) (hB : B ≤ B') : Stays B' T A D := ⟨h.size, fun b h1 h2 => h.far b (Nat.le_trans hB h1) h2, h.near⟩
theorem Stays.put {B l : Nat} {T : Nat → Prop} (W : World) (o : Obj) (hB : l < B) (hT : ¬ T l) : Stays B T W (W.putObj l o) :=
  ⟨by simp, fun b h1 _ => World.putObj_heap_other (by omega), fun b hb => World.putObj_heap_other (fun e => hT (e ▸ hb))⟩
/-- what comes of an iterator, whatever it turns of its own -/
def SeqDeep {α : Type} (F : Fence) (n : Nat) (P : Program) (g : Nat) (lb : Array Value) (encs : α → Array Value) (T : Nat → Prop) (S Sp : List α → Prop) (Nx : List α → α → Prop) (w : World) : Prop :=
  ∀ (l : Nat) (J Jx : List α → World → Prop) (W : World), Below w.heap.size w W → OwnFrom W.heap.size J → OwnFrom W.heap.size Jx →
    (∀ pre x W1, J pre W1 → Nx pre x → YieldAt F (n - 1) P l (encs x) W1 fun e W' =>
      (e = .returned (.bool true) ∧ J (pre ++ [x]) W' ∧ Stays W.heap.size T W1 W') ∨ (e = .returned (.bool false) ∧ Jx (pre ++ [x]) W' ∧ Stays W.heap.size T W1 W')) →
    J [] W →
    CallsIn F n P g (#[.func (.yield l) #[] #[]] ++ lb) W fun e W' => (∃ v, e = .returned v) ∧ ((∃ xs, S xs ∧ J xs W') ∨ (∃ pre, Sp pre ∧ Jx pre W'))
/-- how a round's body is left -/
def deepPost {α : Type} (B : Nat) (T : Nat → Prop) (I Ix : List α → World → Prop) (xs : List α) (W : World) : Exit → Act → World → Prop
  | .normal, _, W' => Stays B T W W' ∧ I xs W'
  | .ret, _, W' => Stays B T W W' ∧ Ix xs W'
  | _, _, _ => False

theorem rangeFunc_deep {F : Fence} {n : Nat} {P : Program} {α : Type} {g : Operand} {ps : Array Tmp} {assign body : Code} {Q : Exit → Act → World → Prop} {a : Act} {w : World}
    (hro : F.round = none) (h1 : 1 ≤ n) {gf : Nat} {lb : Array Value} (hg : a.eval g = .func (.func gf) #[] lb) (hFg : F.fn gf) (eg : ∀ args w, (callFunc gf args).run P w = .ok (.enter gf args) w)
    {encs : α → Array Value} {T : Nat → Prop} {S Sp : List α → Prop} {Nx : List α → α → Prop} (hseq : SeqDeep F (n - 1) P gf lb encs T S Sp Nx w) (hT : ∀ b, T b → b < w.heap.size) (hps : ∀ x, (encs x).size = ps.size)
    (I Ix : List α → World → Prop) (hI : OwnFrom w.heap.size I) (hIx : OwnFrom w.heap.size Ix) (h0 : I [] w)
    (hround : ∀ (l : Nat) (pre : List α) (x : α) (W : World) (K : Act → World → Prop), I pre W → Nx pre x →
      (∀ a', (∀ (l : Nat) (W1 : World), w.heap.size ≤ l → I pre W1 → w.heap.size ≤ W1.heap.size →
        body.wpIn (F.inRound l) (n - 1 - 1) P (deepPost w.heap.size T I Ix (pre ++ [x]) W1) a' W1) → K a' W) →
      assign.wpIn (F.inRound l) (n - 1 - 1) P (Exit.then K (fun _ _ _ => False)) { tmps := (ps.zip (encs x)).foldl (fun t (p, v) => t.setIfInBounds p v) a.tmps, defers := [] } W)
    (hdone : ∀ (D : Nat) (xs : List α) (W : World), w.heap.size ≤ D → S xs → I xs W → W.heap[D]? = some (.deferred (some [])) → Q .normal { a with defers := { target := .collected D, args := #[] } :: a.defers } W)
    (hstop : ∀ (D : Nat) (pre : List α) (W : World), w.heap.size ≤ D → Sp pre → Ix pre W → W.heap[D]? = some (.deferred (some [])) → Code.ret.wpIn F n P Q { a with defers := { target := .collected D, args := #[] } :: a.defers } W) :
    (Code.rangeFunc g ps assign body).wpIn F n P Q a w := by
  refine wpIn_rangeFunc fun fn hfn => ?_
  rw [hro]
  -- the loop's record, in each of its states
  let R : LoopState → Option Code → Loop := fun st j => { state := st, pending := j, fn, tmps := a.tmps, params := ps, assign, body, defers := w.heap.size }
  obtain ⟨D, hD⟩ : ∃ D, D = w.heap.size := ⟨_, rfl⟩
  obtain ⟨V, hV⟩ : ∃ V, V = (w.alloc (.deferred (some []))).alloc (.loop (R .ready none)) := ⟨_, rfl⟩
  have hVs : V.heap.size = D + 2 := by rw [hV, hD]; simp
  have hVl : V.heap[D + 1]? = some (.loop (R .ready none)) := by
    have := World.alloc_heap_new (w.alloc (.deferred (some []))) (.loop (R .ready none))
    rw [World.size_alloc] at this
    rw [hV, hD]; exact this
  have hVd : V.heap[D]? = some (.deferred (some [])) := by
    rw [hV, hD]
    exact (Below.heap_alloc _ _ _ (by simp)).trans (World.alloc_heap_new w _)
  have hVb : Below w.heap.size w V := by
    rw [hV]
    exact ((Below.refl _ w).alloc (Nat.le_refl _) _).alloc (by simp) _
  have hVI : I [] V := by rw [hV]; exact hI.alloc _ (hI.alloc _ h0)
  -- the two blocks, whatever else turns beyond them
  have own2 : ∀ (o1 o2 : Obj), OwnFrom V.heap.size (fun (_ : List α) W => W.heap[D + 1]? = some o1 ∧ W.heap[D]? = some o2) := fun o1 o2 s A B row hs hgr hr => by
    have e : ∀ k, k < V.heap.size → k < A.heap.size → B.heap[k]? = A.heap[k]? := fun k hk hk2 => hgr.block k hk2 (fun e => by have := (hr k e.symm).1; omega)
    exact ⟨(e _ (by omega) (lt_of_obj hs.1)).trans hs.1, (e _ (by omega) (lt_of_obj hs.2)).trans hs.2⟩
  have widen : ∀ {X : List α → World → Prop}, OwnFrom w.heap.size X → OwnFrom V.heap.size X := fun h s A B row hs hgr hr => h s A B row hs hgr fun r e => ⟨by have := (hr r e).1; omega, (hr r e).2⟩
  have hTD : ¬ T (D + 1) := fun h => by have := hT _ h; omega
  refine ⟨D + 1, [{ target := .collected D, args := #[] }], V, { target := .fn (.func gf) lb, args := #[.func (.yield (D + 1)) #[] #[]] }, V, gf, #[.func (.yield (D + 1)) #[] #[]] ++ lb, V, ?_, ?_, ?_, ?_, fun _ => h1, ?_⟩
  · rw [hV, hD]; exact run_enterLoop_outer _ _ _ _ _
  · simp only [resolve, hg]
    simp [go_sem]
  · intro f' hf'
    simp [Target.leads] at hf'
    exact hf' ▸ hFg
  · simp [invoke, go_sem, eg]
  · refine (hseq (D + 1) (fun pre W => I pre W ∧ W.heap[D + 1]? = some (.loop (R .ready none)) ∧ W.heap[D]? = some (.deferred (some [])))
      (fun pre W => Ix pre W ∧ W.heap[D + 1]? = some (.loop (R .done (some .ret))) ∧ W.heap[D]? = some (.deferred (some []))) V hVb
      (OwnFrom.and (widen hI) (own2 _ _)) (OwnFrom.and (widen hIx) (own2 _ _)) ?_ ⟨hVI, hVl, hVd⟩).mono ?_
    · rintro pre x W ⟨hi, hl, hd⟩ hnx
      refine ⟨fn, _, assign, body, run_yield (r := R .ready none) hl (hps x), roundIn_of_wpIn hfn (hround _ pre x W _ hi hnx fun a' hbody => ?_)⟩
      refine ⟨_, run_beginRound hl rfl, ?_⟩
      obtain ⟨W1, hW1⟩ : ∃ W1, W1 = W.putObj (D + 1) (.loop (R .busy none)) := ⟨_, rfl⟩
      have hl1 : W1.heap[D + 1]? = some (.loop (R .busy none)) := by rw [hW1]; exact World.putObj_heap_same (lt_of_obj hl)
      have hd1 : W1.heap[D]? = some (.deferred (some [])) := by rw [hW1]; exact (World.putObj_heap_other (by omega)).trans hd
      have hi1 : I pre W1 := by rw [hW1]; exact hI.putObj _ hi (by omega) hl rfl
      have hs1 : Stays V.heap.size T W W1 := by rw [hW1]; exact Stays.put W _ (by omega) hTD
      show body.wpIn _ _ P _ a' (W.putObj (D + 1) (.loop (R .busy none)))
      rw [← hW1]
      refine wpIn_mono (hbody (D + 1) W1 (by omega) hi1 (by have := lt_of_obj hl1; omega)) ?_
      rintro e a3 W3 hp
      have fin : ∀ (j : Option Code) (X : List α → World → Prop), OwnFrom w.heap.size X → Stays w.heap.size T W1 W3 → X (pre ++ [x]) W3 →
          ∃ W4, (Instr.endRound (D + 1) j).run P W3 = .ok (.bool j.isNone) W4 ∧ X (pre ++ [x]) W4 ∧ W4.heap[D + 1]? = some (.loop (R (if j.isNone then .ready else .done) j)) ∧ W4.heap[D]? = some (.deferred (some [])) ∧ Stays V.heap.size T W W4 := fun j X hX hs hx => by
        have l3 : W3.heap[D + 1]? = some (.loop (R .busy none)) := (hs.far _ (by omega) (lt_of_obj hl1)).trans hl1
        have d3 : W3.heap[D]? = some (.deferred (some [])) := (hs.far _ (by omega) (lt_of_obj hd1)).trans hd1
        exact ⟨_, run_endRound (P := P) j l3, hX.putObj _ hx (by omega) l3 rfl, World.putObj_heap_same (lt_of_obj l3), (World.putObj_heap_other (by omega)).trans d3, hs1.trans ((hs.mono (by omega)).trans (Stays.put W3 _ (by omega) hTD))⟩
      cases e with
      | normal =>
        obtain ⟨W4, q1, q2, q3, q4, q5⟩ := fin none I hI hp.1 hp.2
        exact ⟨_, _, q1, .inl ⟨rfl, ⟨q2, q3, q4⟩, q5⟩⟩
      | ret =>
        obtain ⟨W4, q1, q2, q3, q4, q5⟩ := fin (some .ret) Ix hIx hp.1 hp.2
        exact ⟨_, _, q1, .inr ⟨rfl, ⟨q2, q3, q4⟩, q5⟩⟩
      | exit _ => exact hp.elim
      | goto _ => exact hp.elim
      | panic _ => exact hp.elim
      | outgrown => exact hp.elim
    · rintro e W2 ⟨⟨v, rfl⟩, (⟨xs, hS, hi, hl, hd⟩ | ⟨pre, hSp, hi, hl, hd⟩)⟩
      · exact ⟨none, _, run_endLoop (P := P) hl (by simp [R]), hD ▸ hdone D xs _ (by omega) hS (hI.putObj _ hi (by omega) hl rfl) ((World.putObj_heap_other (by omega)).trans hd)⟩
      · exact ⟨some .ret, _, run_endLoop (P := P) hl (by simp [R]), hD ▸ hstop D pre _ (by omega) hSp (hIx.putObj _ hi (by omega) hl rfl) ((World.putObj_heap_other (by omega)).trans hd)⟩
theorem rangeFunc_deep_box {F : Fence} {n : Nat} {P : Program} {α : Type} {g : Operand} {ps : Array Tmp} {assign body : Code} {Q : Exit → Act → World → Prop} {a : Act} {w : World}
    (hro : F.round = none) (h1 : 1 ≤ n) {gf : Nat} {lb : Array Value} (hg : a.eval g = .func (.func gf) #[] lb) (hFg : F.fn gf) (eg : ∀ args w, (callFunc gf args).run P w = .ok (.enter gf args) w)
    {encs : α → Array Value} {T : Nat → Prop} {S Sp : List α → Prop} {Nx : List α → α → Prop} (hseq : SeqDeep F (n - 1) P gf lb encs T S Sp Nx w) (hT : ∀ b, T b → b < w.heap.size) (hps : ∀ x, (encs x).size = ps.size)
    (I Ix : List α → World → Prop) (hI : OwnFrom w.heap.size I) (hIx : OwnFrom w.heap.size Ix) (h0 : I [] w)
    (Ty : TypeId) (cs : α → Array Value)
    (hround : ∀ (l : Nat) (pre : List α) (x : α) (W : World) (K : Act → World → Prop), I pre W → Nx pre x →
      (∀ a', (∀ (l : Nat) (W1 : World), w.heap.size ≤ l → I pre W1 → w.heap.size ≤ W.heap.size → Blk W1 W.heap.size Ty (cs x) →
        body.wpIn (F.inRound l) (n - 1 - 1) P (deepPost w.heap.size T I Ix (pre ++ [x]) W1) a' W1) → K a' (W.alloc (.cells (cs x) Ty))) →
      assign.wpIn (F.inRound l) (n - 1 - 1) P (Exit.then K (fun _ _ _ => False)) { tmps := (ps.zip (encs x)).foldl (fun t (p, v) => t.setIfInBounds p v) a.tmps, defers := [] } W)
    (hdone : ∀ (D : Nat) (xs : List α) (W : World), w.heap.size ≤ D → S xs → I xs W → W.heap[D]? = some (.deferred (some [])) → Q .normal { a with defers := { target := .collected D, args := #[] } :: a.defers } W)
    (hstop : ∀ (D : Nat) (pre : List α) (W : World), w.heap.size ≤ D → Sp pre → Ix pre W → W.heap[D]? = some (.deferred (some [])) → Code.ret.wpIn F n P Q { a with defers := { target := .collected D, args := #[] } :: a.defers } W) :
    (Code.rangeFunc g ps assign body).wpIn F n P Q a w := by
  refine wpIn_rangeFunc fun fn hfn => ?_
  rw [hro]
  -- the loop's record, in each of its states
  let R : LoopState → Option Code → Loop := fun st j => { state := st, pending := j, fn, tmps := a.tmps, params := ps, assign, body, defers := w.heap.size }
  obtain ⟨D, hD⟩ : ∃ D, D = w.heap.size := ⟨_, rfl⟩
  obtain ⟨V, hV⟩ : ∃ V, V = (w.alloc (.deferred (some []))).alloc (.loop (R .ready none)) := ⟨_, rfl⟩
  have hVs : V.heap.size = D + 2 := by rw [hV, hD]; simp
  have hVl : V.heap[D + 1]? = some (.loop (R .ready none)) := by
    have := World.alloc_heap_new (w.alloc (.deferred (some []))) (.loop (R .ready none))
    rw [World.size_alloc] at this
    rw [hV, hD]; exact this
  have hVd : V.heap[D]? = some (.deferred (some [])) := by
    rw [hV, hD]
    exact (Below.heap_alloc _ _ _ (by simp)).trans (World.alloc_heap_new w _)
  have hVb : Below w.heap.size w V := by
    rw [hV]
    exact ((Below.refl _ w).alloc (Nat.le_refl _) _).alloc (by simp) _
  have hVI : I [] V := by rw [hV]; exact hI.alloc _ (hI.alloc _ h0)
  -- the two blocks, whatever else turns beyond them
  have own2 : ∀ (o1 o2 : Obj), OwnFrom V.heap.size (fun (_ : List α) W => W.heap[D + 1]? = some o1 ∧ W.heap[D]? = some o2) := fun o1 o2 s A B row hs hgr hr => by
    have e : ∀ k, k < V.heap.size → k < A.heap.size → B.heap[k]? = A.heap[k]? := fun k hk hk2 => hgr.block k hk2 (fun e => by have := (hr k e.symm).1; omega)
    exact ⟨(e _ (by omega) (lt_of_obj hs.1)).trans hs.1, (e _ (by omega) (lt_of_obj hs.2)).trans hs.2⟩
  have widen : ∀ {X : List α → World → Prop}, OwnFrom w.heap.size X → OwnFrom V.heap.size X := fun h s A B row hs hgr hr => h s A B row hs hgr fun r e => ⟨by have := (hr r e).1; omega, (hr r e).2⟩
  have hTD : ¬ T (D + 1) := fun h => by have := hT _ h; omega
  refine ⟨D + 1, [{ target := .collected D, args := #[] }], V, { target := .fn (.func gf) lb, args := #[.func (.yield (D + 1)) #[] #[]] }, V, gf, #[.func (.yield (D + 1)) #[] #[]] ++ lb, V, ?_, ?_, ?_, ?_, fun _ => h1, ?_⟩
  · rw [hV, hD]; exact run_enterLoop_outer _ _ _ _ _
  · simp only [resolve, hg]
    simp [go_sem]
  · intro f' hf'
    simp [Target.leads] at hf'
    exact hf' ▸ hFg
  · simp [invoke, go_sem, eg]
  · refine (hseq (D + 1) (fun pre W => I pre W ∧ W.heap[D + 1]? = some (.loop (R .ready none)) ∧ W.heap[D]? = some (.deferred (some [])))
      (fun pre W => Ix pre W ∧ W.heap[D + 1]? = some (.loop (R .done (some .ret))) ∧ W.heap[D]? = some (.deferred (some []))) V hVb
      (OwnFrom.and (widen hI) (own2 _ _)) (OwnFrom.and (widen hIx) (own2 _ _)) ?_ ⟨hVI, hVl, hVd⟩).mono ?_
    · rintro pre x W ⟨hi, hl, hd⟩ hnx
      refine ⟨fn, _, assign, body, run_yield (r := R .ready none) hl (hps x), roundIn_of_wpIn hfn (hround _ pre x W _ hi hnx fun a' hbody => ?_)⟩
      have hlW := lt_of_obj hl
      have hbx := Blk.new W Ty (cs x)
      have hs0 : Stays V.heap.size T W (W.alloc (.cells (cs x) Ty)) := ⟨by simp, fun b _ hb => Below.heap_alloc _ _ _ hb, fun b hb => Below.heap_alloc _ _ _ (by have := hT b hb; omega)⟩
      have hl0 : (W.alloc (.cells (cs x) Ty)).heap[D + 1]? = some (.loop (R .ready none)) := (Below.heap_alloc _ _ _ hlW).trans hl
      have hd0 : (W.alloc (.cells (cs x) Ty)).heap[D]? = some (.deferred (some [])) := (Below.heap_alloc _ _ _ (lt_of_obj hd)).trans hd
      have hi0 : I pre (W.alloc (.cells (cs x) Ty)) := hI.alloc _ hi
      obtain ⟨Pb, hPb⟩ : ∃ Pb, Pb = W.heap.size := ⟨_, rfl⟩
      rw [← hPb] at hbx hbody
      obtain ⟨W0, hW0⟩ : ∃ W0, W0 = W.alloc (.cells (cs x) Ty) := ⟨_, rfl⟩
      rw [← hW0] at hs0 hl0 hd0 hi0 hbx ⊢
      refine ⟨_, run_beginRound hl0 rfl, ?_⟩
      obtain ⟨W1, hW1⟩ : ∃ W1, W1 = W0.putObj (D + 1) (.loop (R .busy none)) := ⟨_, rfl⟩
      have hl1 : W1.heap[D + 1]? = some (.loop (R .busy none)) := by rw [hW1]; exact World.putObj_heap_same (lt_of_obj hl0)
      have hd1 : W1.heap[D]? = some (.deferred (some [])) := by rw [hW1]; exact (World.putObj_heap_other (by omega)).trans hd0
      have hi1 : I pre W1 := by rw [hW1]; exact hI.putObj _ hi0 (by omega) hl0 rfl
      have hs1 : Stays V.heap.size T W W1 := by rw [hW1]; exact hs0.trans (Stays.put W0 _ (by omega) hTD)
      have hb1 : Blk W1 Pb Ty (cs x) := by rw [hW1]; exact (World.putObj_heap_other (by omega)).trans hbx
      show body.wpIn _ _ P _ a' (W0.putObj (D + 1) (.loop (R .busy none)))
      rw [← hW1]
      refine wpIn_mono (hbody (D + 1) W1 (by omega) hi1 (by omega) hb1) ?_
      rintro e a3 W3 hp
      have fin : ∀ (j : Option Code) (X : List α → World → Prop), OwnFrom w.heap.size X → Stays w.heap.size T W1 W3 → X (pre ++ [x]) W3 →
          ∃ W4, (Instr.endRound (D + 1) j).run P W3 = .ok (.bool j.isNone) W4 ∧ X (pre ++ [x]) W4 ∧ W4.heap[D + 1]? = some (.loop (R (if j.isNone then .ready else .done) j)) ∧ W4.heap[D]? = some (.deferred (some [])) ∧ Stays V.heap.size T W W4 := fun j X hX hs hx => by
        have l3 : W3.heap[D + 1]? = some (.loop (R .busy none)) := (hs.far _ (by omega) (lt_of_obj hl1)).trans hl1
        have d3 : W3.heap[D]? = some (.deferred (some [])) := (hs.far _ (by omega) (lt_of_obj hd1)).trans hd1
        exact ⟨_, run_endRound (P := P) j l3, hX.putObj _ hx (by omega) l3 rfl, World.putObj_heap_same (lt_of_obj l3), (World.putObj_heap_other (by omega)).trans d3, hs1.trans ((hs.mono (by omega)).trans (Stays.put W3 _ (by omega) hTD))⟩
      cases e with
      | normal =>
        obtain ⟨W4, q1, q2, q3, q4, q5⟩ := fin none I hI hp.1 hp.2
        exact ⟨_, _, q1, .inl ⟨rfl, ⟨q2, q3, q4⟩, q5⟩⟩
      | ret =>
        obtain ⟨W4, q1, q2, q3, q4, q5⟩ := fin (some .ret) Ix hIx hp.1 hp.2
        exact ⟨_, _, q1, .inr ⟨rfl, ⟨q2, q3, q4⟩, q5⟩⟩
      | exit _ => exact hp.elim
      | goto _ => exact hp.elim
      | panic _ => exact hp.elim
      | outgrown => exact hp.elim
    · rintro e W2 ⟨⟨v, rfl⟩, (⟨xs, hS, hi, hl, hd⟩ | ⟨pre, hSp, hi, hl, hd⟩)⟩
      · exact ⟨none, _, run_endLoop (P := P) hl (by simp [R]), hD ▸ hdone D xs _ (by omega) hS (hI.putObj _ hi (by omega) hl rfl) ((World.putObj_heap_other (by omega)).trans hd)⟩
      · exact ⟨some .ret, _, run_endLoop (P := P) hl (by simp [R]), hD ▸ hstop D pre _ (by omega) hSp (hIx.putObj _ hi (by omega) hl rfl) ((World.putObj_heap_other (by omega)).trans hd)⟩
theorem roundIn_any {F : Fence} (hd : F.depth = none) {m m' : Nat} {P : Program} {l : Nat} {f : FuncId} {tmps : Array Value} {assign body : Code} {w : World} {R : Ending → World → Prop}
    (h : RoundIn F m P l f tmps assign body w R) : RoundIn F m' P l f tmps assign body w R :=
  ⟨h.1, fun c cs _ => h.2 c cs (fun d e => by rw [hd] at e; cases e)⟩
end Go.LawEnd

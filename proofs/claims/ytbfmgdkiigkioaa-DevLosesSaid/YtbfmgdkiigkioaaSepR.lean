/- Atoms in a range over a function: what a round keeps, a box that is laid in each round; over any program. -/
import Derived.Test.YtbfmgdkiigkioaaSep
import Derived.RangeFuncNested
import Derived.RangeFuncBound
import Derived.RangeFuncCalls
import Derived.RangeFuncLeaves
import Derived.RangeFuncFrom
namespace Go.LawEnd
open Go.RowKit

/-- its blocks are cells, or lie below B -/
def Atom.Celly (B : Nat) (A : Atom) : Prop := ∀ w S b, A.P w S → S b → b < B ∨ ∃ o : Obj, w.heap[b]? = some o ∧ o.isCells = true
theorem celly_blk (B g : Nat) (t : TypeId) (cs : Array Value) : (blkA g t cs).Celly B := by
  intro w S b h hb
  rw [(h.2 b).1 hb]
  exact .inr ⟨_, h.1, rfl⟩
theorem celly_row (B : Nat) (v : Value) (e : TypeId) (size n : Nat) (xs : List Value) : (rowA v e size n xs).Celly B := by
  intro w S b h hb
  have hv := (h.2 b).1 hb
  rcases h.1.2 with ⟨rfl, _⟩ | ⟨g, cap, cur, rfl, h0, hh, r⟩
  · cases hv
  · have : g = b := by simpa [Value.ownBlock] using hv
    subst this
    exact .inr ⟨_, hh, rfl⟩
theorem celly_pure (B : Nat) (p : Prop) : (pureA p).Celly B := fun _ _ b h hb => absurd hb (h.2 b)
theorem Sep.celly {B : Nat} {L : List Atom} {w : World} {S : Nat → Prop} (h : Sep L w S) (hc : ∀ A ∈ L, A.Celly B) {b : Nat} (hb : S b) : b < B ∨ ∃ o : Obj, w.heap[b]? = some o ∧ o.isCells = true := by
  induction L generalizing S with
  | nil => exact absurd hb (h b)
  | cons A L ih =>
    obtain ⟨S1, S2, h1, h2, _, hu⟩ := h
    rcases (hu b).1 hb with h' | h'
    · exact hc A (List.mem_cons_self ..) w S1 b h1 h'
    · exact ih h2 (fun X hX => hc X (List.mem_cons_of_mem _ hX)) h'
theorem celly_pack {α : Type} {B : Nat} {f : α → List Atom} (hc : ∀ a, ∀ A ∈ f a, A.Celly B) : (packA f).Celly B := by
  rintro w S b ⟨a, h⟩ hb
  exact h.celly (hc a) hb
section
variable {w0 W W' : World} {S : Nat → Prop} {L C : List Atom} {B : Nat}
/-- a block turns that is no cells, and lies at or beyond B -/
theorem Hv.turned {row : Option Nat} (h : Hv w0 S L W) (hc : ∀ A ∈ L, A.Celly B) (hB : w0.heap.size ≤ B) (hg : W.grownBy W' row) (hr : ∀ r, row = some r → B ≤ r ∧ ∃ o : Obj, W.heap[r]? = some o ∧ o.isCells = false) : Hv w0 S L W' := by
  obtain ⟨T, hT, hf⟩ := h
  refine ⟨T, hT.keep fun b hb => hg.block b (hT.lt hb) ?_, hf.ch.grown hg (fun k hk => .inr (Nat.le_trans hB (hr k hk).1)), hf.sub⟩
  intro e
  obtain ⟨h1, o, ho, hn⟩ := hr b e.symm
  rcases hT.celly hc hb with h' | ⟨o', ho', hn'⟩
  · omega
  · rw [ho] at ho'; injection ho' with ho'; rw [ho', hn'] at hn; cases hn
theorem hv_own {β : Type} {L : β → List Atom} (hc : ∀ s, ∀ A ∈ L s, A.Celly B) (hB : w0.heap.size ≤ B) : OwnFrom B (fun s W => Hv w0 S (L s) W) :=
  fun s _ _ _ hs hg hr => hs.turned (hc s) hB hg hr
theorem ex_own {β γ : Type} {I : γ → β → World → Prop} (h : ∀ c, OwnFrom B (I c)) : OwnFrom B (fun s W => ∃ c, I c s W) := by
  rintro s W W' row ⟨c, hs⟩ hg hr
  exact ⟨c, h c s W W' row hs hg hr⟩
theorem pure_own {β : Type} (p : β → Prop) : OwnFrom B (fun s (_ : World) => p s) := fun _ _ _ _ hs _ _ => hs
def KpT (T : Nat → Prop) (W W' : World) : Prop := ∀ b, T b → W'.heap[b]? = W.heap[b]?
theorem KpT.refl (T : Nat → Prop) (W : World) : KpT T W W := fun _ _ => rfl
theorem KpT.trans {T : Nat → Prop} {A B C : World} (h : KpT T A B) (k : KpT T B C) : KpT T A C := fun b hb => (k b hb).trans (h b hb)
theorem kpT_b {T : Nat → Prop} {w : World} (hT : ∀ b, T b → b < w.heap.size) (W : World) (l : Nat) (_o o' : Obj) (hl : w.heap.size ≤ l) (_ : W.heap[l]? = some _o) (_ : _o.isCells = false) (_ : _o.isWalk = false) : KpT T W (W.putObj l o') := by
  intro b hb
  have := hT b hb
  exact World.putObj_heap_other (by omega)
theorem kpT_below {T : Nat → Prop} (hT : ∀ b, T b → b < W.heap.size) (hb : Below W.heap.size W W') : KpT T W W' := fun b h => hb.block b (hT b h)
theorem Hv.keepsFrom {T : Nat → Prop} (h : Hv W T C W') (hT : ∀ b, T b → b < B ∨ ∃ o : Obj, W.heap[b]? = some o ∧ o.isCells = true) : KeepsFrom B W W' := by
  obtain ⟨_, _, hf⟩ := h
  refine ⟨hf.ch.size, fun k o hk ho hn => ?_⟩
  rw [hf.ch.block k (lt_of_obj ho) ?_]
  · exact ho
  · intro ht
    rcases hT k ht with h' | ⟨o', ho', hn'⟩
    · omega
    · rw [ho] at ho'; injection ho' with ho'; rw [ho', hn'] at hn; cases hn
theorem keepsFrom_below (hb : Below W.heap.size W W') : KeepsFrom B W W' := ⟨hb.size, fun k _ _ ho _ => (hb.block k (lt_of_obj ho)).trans ho⟩
/-- A ROUND: what one has (C) beside what the iterator reads (A, on the blocks F) -/
theorem Hv.round {A : Atom} {F : Nat → Prop} (hF : ∀ {w S}, A.P w S → ∀ b, S b ↔ F b) (C : List Atom) (h : Hv w0 S (C ++ [A]) W) (hc : ∀ X ∈ C, X.Celly B) :
    ∃ T, Sep C W T ∧ (∀ b, F b → b < W.heap.size) ∧ ∀ C' w', Hv W T C' w' → KeepsFrom B W w' ∧ KpT F W w' ∧ Hv w0 S (C' ++ [A]) w' := by
  obtain ⟨S', hs, hf⟩ := h
  obtain ⟨S1, S2, h1, h2, hd, hu⟩ := hs.split
  have hA := h2.out
  refine ⟨S1, h1, fun b hb => A.lt hA ((hF hA b).2 hb), fun C' w' hv => ⟨hv.keepsFrom fun b hb => h1.celly hc hb, fun b hb => ?_, ?_⟩⟩
  · have hb2 := (hF hA b).2 hb
    exact hv.ch.block b (A.lt hA hb2) (fun h => hd b h hb2)
  · obtain ⟨T', hT', hf'⟩ := hv
    have hA' : A.P w' S2 := A.keep hA fun b hb => hf'.ch.block b (A.lt hA hb) (fun h => hd b h hb)
    refine ⟨fun b => T' b ∨ S2 b, hT'.join (Sep.one hA') ?_, hf.trans ⟨hf'.ch.mono fun k _ hk => (hu k).2 (.inl hk), fun b hb => ?_⟩⟩
    · intro b hb h2b
      rcases hf'.sub b hb with h' | h'
      · exact hd b h' h2b
      · have := A.lt hA h2b; omega
    · rcases hb with hb | hb
      · exact (hf'.sub b hb).imp (fun h => (hu b).2 (.inl h)) id
      · exact .inl ((hu b).2 (.inr hb))
/-- it does not speak of block b -/
def Atom.Misses (A : Atom) (b : Nat) : Prop := ∀ w S, A.P w S → ¬ S b
theorem misses_blk {g b : Nat} {t : TypeId} {cs : Array Value} (h : g ≠ b) : (blkA g t cs).Misses b := fun _ _ hp hb => h ((hp.2 b).1 hb).symm
theorem misses_row {v : Value} {e : TypeId} {size n b : Nat} {xs : List Value} (h : v.ownBlock ≠ some b) : (rowA v e size n xs).Misses b := fun _ _ hp hb => h ((hp.2 b).1 hb)
theorem misses_pure {p : Prop} {b : Nat} : (pureA p).Misses b := fun _ _ hp hb => hp.2 b hb
theorem Sep.misses {w : World} {T : Nat → Prop} {b : Nat} (h : Sep L w T) (hm : ∀ A ∈ L, A.Misses b) : ¬ T b := by
  induction L generalizing T with
  | nil => exact h b
  | cons A L ih =>
    obtain ⟨S1, S2, h1, h2, _, hu⟩ := h
    intro hb
    rcases (hu b).1 hb with h' | h'
    · exact hm A (List.mem_cons_self ..) w S1 h1 h'
    · exact ih h2 (fun X hX => hm X (List.mem_cons_of_mem _ hX)) h'
theorem Hv.addBlk {P : Nat} {t : TypeId} {cs : Array Value} (h : Hv w0 S L W) (hk : Blk W P t cs) (hP : w0.heap.size ≤ P) (hm : ∀ A ∈ L, A.Misses P) : Hv w0 S (blkA P t cs :: L) W := by
  obtain ⟨T, hT, hf⟩ := h
  refine ⟨fun b => b = P ∨ T b, ⟨fun b => b = P, T, ⟨hk, fun _ => Iff.rfl⟩, hT, fun b hb ht => ?_, fun _ => Iff.rfl⟩, hf.ch, fun b hb => hb.elim (fun e => .inr (by omega)) (hf.sub b)⟩
  rw [hb] at ht
  exact hT.misses hm ht
theorem blk_turned {P : Nat} {t : TypeId} {cs : Array Value} {row : Option Nat} (h : Blk W P t cs) (hg : W.grownBy W' row) (hr : ∀ r, row = some r → B ≤ r ∧ ∃ o : Obj, W.heap[r]? = some o ∧ o.isCells = false) : Blk W' P t cs := by
  refine (hg.block P h.lt ?_).trans h
  intro e
  obtain ⟨_, o, ho, hn⟩ := hr P e.symm
  unfold Blk at h
  rw [h] at ho
  injection ho with ho
  rw [← ho] at hn
  cases hn
theorem blk_one {P : Nat} {t : TypeId} {u v : Value} (h : Blk W P t #[u]) (k : Blk W P t #[v]) : u = v := by
  unfold Blk at h k
  rw [h] at k
  injection k with k
  injection k with k _
  injection k with k
  injection k with k
end

/-- the block of a loop that is through -/
def defA (D : Nat) : Atom where
  P w S := w.heap[D]? = some (.deferred (some [])) ∧ ∀ b, S b ↔ b = D
  lt h hb := by rw [(h.2 _).1 hb]; exact lt_of_obj h.1
  keep h hk := ⟨(hk D ((h.2 D).2 rfl)).trans h.1, h.2⟩
theorem celly_def {B D : Nat} (h : D < B) : (defA D).Celly B := fun _ _ b hp hb => .inl (by rw [(hp.2 b).1 hb]; exact h)
theorem misses_def {D b : Nat} (h : D ≠ b) : (defA D).Misses b := fun _ _ hp hb => h ((hp.2 b).1 hb).symm
theorem Hv.addDef {w0 W : World} {S : Nat → Prop} {L : List Atom} {B D : Nat} (h : Hv w0 S L W) (hc : ∀ A ∈ L, A.Celly B) (hD : B ≤ D) (hB : w0.heap.size ≤ B) (hK : W.heap[D]? = some (.deferred (some []))) : Hv w0 S (defA D :: L) W := by
  obtain ⟨T, hT, hf⟩ := h
  refine ⟨fun b => b = D ∨ T b, ⟨fun b => b = D, T, ⟨hK, fun _ => Iff.rfl⟩, hT, fun b hb ht => ?_, fun _ => Iff.rfl⟩, hf.ch, fun b hb => hb.elim (fun e => .inr (by omega)) (hf.sub b)⟩
  rw [hb] at ht
  rcases hT.celly hc ht with h' | ⟨o, ho, hn⟩
  · omega
  · rw [hK] at ho; injection ho with ho; rw [← ho] at hn; cases hn
theorem Hv.def_ {w0 W : World} {S : Nat → Prop} {L : List Atom} {D i : Nat} (h : Hv w0 S L W) (hi : L[i]? = some (defA D)) : W.heap[D]? = some (.deferred (some [])) := by obtain ⟨T, hT⟩ := h.at_ hi; exact hT.1
/-- at the function's end the block of a loop is turned once more -/
theorem Hv.take {w0 W : World} {S : Nat → Prop} {L : List Atom} {D : Nat} (h : Hv w0 S (defA D :: L) W) (o : Obj) : Hv w0 S L (W.putObj D o) := by
  obtain ⟨T, ⟨S1, S2, h1, h2, hd, hu⟩, hf⟩ := h
  have hD : S1 D := (h1.2 D).2 rfl
  have hg := grownBy_putObj' W D o
  refine ⟨S2, h2.keep fun b hb => hg.block b (h2.lt hb) (fun e => ?_), hf.ch.grown hg (fun k hk => ?_), fun b hb => hf.sub b ((hu b).2 (.inr hb))⟩
  · injection e with e
    rw [e] at hb
    exact hd D hD hb
  · injection hk with hk
    rw [← hk]
    exact hf.sub D ((hu D).2 (.inl hD))
theorem own_comp {β γ : Type} {B : Nat} {I : β → World → Prop} (h : OwnFrom B I) (f : γ → β) : OwnFrom B (fun s W => I (f s) W) := fun s W W' row => h (f s) W W' row
/-- A RANGE OVER A FUNCTION WHOSE ASSIGNMENT LAYS ONE BOX IN EACH ROUND: the assignment and the body are walked one behind the other, the frame as it comes -/
theorem rangeFunc_box {F : Fence} {n : Nat} {P : Program} {α : Type} {g : Operand} {ps : Array Tmp} {assign body : Code} {Q : Exit → Act → World → Prop} {a : Act} {w : World}
    (hro : F.round = none) (h1 : 1 ≤ n) {gf : Nat} {lb : Array Value} (hg : a.eval g = .func (.func gf) #[] lb) (hFg : F.fn gf) (eg : ∀ args w, (callFunc gf args).run P w = .ok (.enter gf args) w)
    {encs : α → Array Value} {Kp : World → World → Prop} {S Sp : List α → Prop} {N : Nat} (hseq : SeqStopsK F (n - 1) P gf lb encs Kp S Sp N w)
    (hKt : ∀ {A B C : World}, Kp A B → Kp B C → Kp A C) (hKb : ∀ (W : World) (l : Nat) (o o' : Obj), w.heap.size ≤ l → W.heap[l]? = some o → o.isCells = false → o.isWalk = false → Kp W (W.putObj l o')) (hps : ∀ x, (encs x).size = ps.size)
    (I : List α → World → Prop) (Ix : Code → List α → World → Prop) (hI : OwnFrom w.heap.size I) (hIx : ∀ c, OwnFrom w.heap.size (Ix c)) (h0 : I [] w)
    (T : TypeId) (cs : α → Array Value) (Hs : List (Nat × TypeId))
    (hkeep : ∀ pre x W, I pre W → w.heap.size ≤ W.heap.size ∧ Kp W (W.alloc (.cells (cs x) T)) ∧ ∀ h ∈ Hs, ∃ v, Blk W h.1 h.2 #[v] ∧ ∀ b, v.ownBlock = some b → b < W.heap.size)
    (hround : ∀ (l : Nat) (pre : List α) (x : α) (W : World) (K : Act → World → Prop), I pre W →
      (∀ a', (∀ (l : Nat) (pre : List α) (W1 : World), w.heap.size ≤ l → (∃ r, W1.heap[l]? = some (.loop r)) → I pre W1 → w.heap.size ≤ W.heap.size → Blk W1 W.heap.size T (cs x) → (∀ h ∈ Hs, ∃ v, Blk W1 h.1 h.2 #[v] ∧ v.ownBlock ≠ some W.heap.size) → pre.length < N →
        body.wpIn (F.inRound l) (n - 1 - 1) P (ownPostG w.heap.size Kp I Ix (pre ++ [x]) W1) a' W1) → K a' (W.alloc (.cells (cs x) T))) →
      assign.wpIn (F.inRound l) (n - 1 - 1) P (Exit.then K (fun _ _ _ => False)) { tmps := (ps.zip (encs x)).foldl (fun t (p, v) => t.setIfInBounds p v) a.tmps, defers := [] } W)
    (hdone : ∀ (D : Nat) (xs : List α) (W : World), w.heap.size ≤ D → S xs → I xs W → W.heap[D]? = some (.deferred (some [])) → Q .normal { a with defers := { target := .collected D, args := #[] } :: a.defers } W)
    (hstop : ∀ (D : Nat) (c : Code) (pre : List α) (W : World), w.heap.size ≤ D → Sp pre → Ix c pre W → W.heap[D]? = some (.deferred (some [])) → c.wpIn F n P Q { a with defers := { target := .collected D, args := #[] } :: a.defers } W) :
    (Code.rangeFunc g ps assign body).wpIn F n P Q a w := by
  refine wpIn_rangeFunc_ownH hro h1 hg hFg eg hseq hKt hKb (Below.refl _ _) hps I Ix hI hIx h0
    (fun x a' W => ∃ Pb, (w.heap.size ≤ Pb ∧ Blk W Pb T (cs x) ∧ ∀ h ∈ Hs, ∃ v, Blk W h.1 h.2 #[v] ∧ v.ownBlock ≠ some Pb) ∧
      ∀ (l : Nat) (pre : List α) (W1 : World), w.heap.size ≤ l → (∃ r, W1.heap[l]? = some (.loop r)) → I pre W1 → w.heap.size ≤ Pb → Blk W1 Pb T (cs x) → (∀ h ∈ Hs, ∃ v, Blk W1 h.1 h.2 #[v] ∧ v.ownBlock ≠ some Pb) → pre.length < N →
        body.wpIn (F.inRound l) (n - 1 - 1) P (ownPostG w.heap.size Kp I Ix (pre ++ [x]) W1) a' W1) ?_ ?_ ?_ hdone hstop
  · rintro x a' _ W W' row ⟨Pb, ⟨h1, h2, h3⟩, h4⟩ hg hr
    exact ⟨Pb, ⟨h1, blk_turned h2 hg hr, fun h hh => by obtain ⟨v, hv, hn⟩ := h3 h hh; exact ⟨v, blk_turned hv hg hr, hn⟩⟩, h4⟩
  · intro l pre x W K hi hK
    obtain ⟨hz, hkp, hh⟩ := hkeep pre x W hi
    refine hround l pre x W K hi fun a' ha' => hK _ _ ((KeepsOthers.alloc W _).from _) hkp (hI.alloc _ hi) ⟨W.heap.size, ⟨hz, Blk.new W T (cs x), fun h hm => ?_⟩, ha'⟩
    obtain ⟨v, hv, hb⟩ := hh h hm
    exact ⟨v, hv.alloc _, fun e => Nat.lt_irrefl _ (hb _ e)⟩
  · rintro l pre x a' W hl hr hi ⟨Pb, ⟨hP, hk, hh⟩, hbody⟩ hlen
    exact hbody l pre W hl hr hi hP hk hh hlen
end Go.LawEnd

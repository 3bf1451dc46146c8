/- What a call has, as a list of atoms on blocks that no two share, and how it goes from call to call; over any program. -/
import Derived.Test.YtieojomabmippaaCh
import Derived.Test.YtieojomabmippaaRd
import Derived.Maps.AppendAt
namespace Go.LawEnd
open Go.RowKit

/-- an assertion of a world on some blocks: it hangs on these alone, and they are there -/
structure Atom where
  P : World → (Nat → Prop) → Prop
  lt : ∀ {w S b}, P w S → S b → b < w.heap.size
  keep : ∀ {w w' S}, P w S → (∀ b, S b → w'.heap[b]? = w.heap[b]?) → P w' S

def Sep : List Atom → World → (Nat → Prop) → Prop
  | [], _, S => ∀ b, ¬ S b
  | A :: L, w, S => ∃ S1 S2, A.P w S1 ∧ Sep L w S2 ∧ (∀ b, S1 b → ¬ S2 b) ∧ ∀ b, S b ↔ S1 b ∨ S2 b

theorem set_eq {S T : Nat → Prop} (h : ∀ b, S b ↔ T b) : S = T := funext fun b => propext (h b)

theorem Sep.lt {L : List Atom} {w : World} {S : Nat → Prop} (h : Sep L w S) {b : Nat} (hb : S b) : b < w.heap.size := by
  induction L generalizing S with
  | nil => exact absurd hb (h b)
  | cons A L ih =>
    obtain ⟨S1, S2, h1, h2, _, hu⟩ := h
    rcases (hu b).1 hb with h' | h'
    · exact A.lt h1 h'
    · exact ih h2 h'
theorem Sep.keep {L : List Atom} {w w' : World} {S : Nat → Prop} (h : Sep L w S) (hk : ∀ b, S b → w'.heap[b]? = w.heap[b]?) : Sep L w' S := by
  induction L generalizing S with
  | nil => exact h
  | cons A L ih =>
    obtain ⟨S1, S2, h1, h2, hd, hu⟩ := h
    exact ⟨S1, S2, A.keep h1 (fun b hb => hk b ((hu b).2 (.inl hb))), ih h2 (fun b hb => hk b ((hu b).2 (.inr hb))), hd, hu⟩
theorem sep_nil {w : World} : Sep [] w (fun _ => False) := fun _ h => h
theorem Sep.split {L1 L2 : List Atom} {w : World} {S : Nat → Prop} (h : Sep (L1 ++ L2) w S) : ∃ S1 S2, Sep L1 w S1 ∧ Sep L2 w S2 ∧ (∀ b, S1 b → ¬ S2 b) ∧ ∀ b, S b ↔ S1 b ∨ S2 b := by
  induction L1 generalizing S with
  | nil => exact ⟨fun _ => False, S, fun _ h => h, h, fun _ h => h.elim, fun b => by simp⟩
  | cons A L ih =>
    obtain ⟨S1, S2, h1, h2, hd, hu⟩ := h
    obtain ⟨T1, T2, k1, k2, kd, ku⟩ := ih h2
    refine ⟨fun b => S1 b ∨ T1 b, T2, ⟨S1, T1, h1, k1, fun b hb ht => hd b hb ((ku b).2 (.inl ht)), fun b => Iff.rfl⟩, k2, fun b hb ht => ?_, fun b => ?_⟩
    · rcases hb with hb | hb
      · exact hd b hb ((ku b).2 (.inr ht))
      · exact kd b hb ht
    · show S b ↔ (S1 b ∨ T1 b) ∨ T2 b
      rw [hu b, ku b, or_assoc]
theorem Sep.join {L1 L2 : List Atom} {w : World} {S1 S2 : Nat → Prop} (h1 : Sep L1 w S1) (h2 : Sep L2 w S2) (hd : ∀ b, S1 b → ¬ S2 b) : Sep (L1 ++ L2) w (fun b => S1 b ∨ S2 b) := by
  induction L1 generalizing S1 with
  | nil =>
    have : (fun b => S1 b ∨ S2 b) = S2 := set_eq fun b => ⟨fun h => h.elim (fun h => absurd h (h1 b)) id, .inr⟩
    rw [this]; exact h2
  | cons A L ih =>
    obtain ⟨T1, T2, k1, k2, kd, ku⟩ := h1
    refine ⟨T1, fun b => T2 b ∨ S2 b, k1, ih k2 (fun b hb => hd b ((ku b).2 (.inr hb))), fun b hb hc => ?_, fun b => ?_⟩
    · exact hc.elim (kd b hb) (hd b ((ku b).2 (.inl hb)))
    · show S1 b ∨ S2 b ↔ T1 b ∨ (T2 b ∨ S2 b)
      rw [ku b, or_assoc]
theorem Sep.one {A : Atom} {w : World} {S : Nat → Prop} (h : A.P w S) : Sep [A] w S := ⟨S, fun _ => False, h, fun _ h => h, fun _ _ h => h, fun b => by simp⟩
theorem Sep.out {A : Atom} {w : World} {S : Nat → Prop} (h : Sep [A] w S) : A.P w S := by
  obtain ⟨S1, S2, h1, h2, _, hu⟩ := h
  have : S1 = S := set_eq fun b => ⟨fun h => (hu b).2 (.inl h), fun h => ((hu b).1 h).elim id (fun h => absurd h (h2 b))⟩
  rw [← this]; exact h1
theorem Sep.perm {L1 L2 : List Atom} (hp : L1.Perm L2) : ∀ {w : World} {S : Nat → Prop}, Sep L1 w S → Sep L2 w S := by
  induction hp with
  | nil => exact fun h => h
  | cons A _ ih => exact fun ⟨S1, S2, h1, h2, hd, hu⟩ => ⟨S1, S2, h1, ih h2, hd, hu⟩
  | swap A B L =>
    rintro w S ⟨S1, S2, h1, ⟨T1, T2, k1, k2, kd, ku⟩, hd, hu⟩
    refine ⟨T1, fun b => S1 b ∨ T2 b, k1, ⟨S1, T2, h1, k2, fun b hb ht => hd b hb ((ku b).2 (.inr ht)), fun b => Iff.rfl⟩, fun b hb hc => ?_, fun b => ?_⟩
    · exact hc.elim (fun h => hd b h ((ku b).2 (.inl hb))) (kd b hb)
    · rw [hu b, ku b]; exact or_left_comm
  | trans _ _ ih1 ih2 => exact fun h => ih2 (ih1 h)

/-- from w, where the blocks S are one's own, to w', where the blocks S' are: no other one has turned, and what is new is one's own -/
structure Fr (S S' : Nat → Prop) (w w' : World) : Prop where
  ch : Ch S w w'
  sub : ∀ b, S' b → S b ∨ w.heap.size ≤ b
theorem Fr.refl (S : Nat → Prop) (w : World) : Fr S S w w := ⟨Ch.refl S w, fun _ h => .inl h⟩
theorem Fr.trans {S S' S'' : Nat → Prop} {a b c : World} (h : Fr S S' a b) (k : Fr S' S'' b c) : Fr S S'' a c := by
  refine ⟨⟨k.ch.os.trans h.ch.os, k.ch.tape.trans h.ch.tape, k.ch.output.trans h.ch.output, Nat.le_trans h.ch.size k.ch.size, fun i hi hs => ?_⟩, fun i hi => ?_⟩
  · rw [k.ch.block i (Nat.lt_of_lt_of_le hi h.ch.size) (fun h' => (h.sub i h').elim hs (fun h => by omega)), h.ch.block i hi hs]
  · rcases k.sub i hi with h' | h'
    · exact h.sub i h'
    · exact .inr (Nat.le_trans h.ch.size h')

/-- where one stands: begun in w0 with the blocks S, now in w with these atoms -/
def Hv (w0 : World) (S : Nat → Prop) (L : List Atom) (w : World) : Prop := ∃ S', Sep L w S' ∧ Fr S S' w0 w
abbrev No : Nat → Prop := fun _ => False

section
variable {w0 w w' : World} {S : Nat → Prop} {L L' C R : List Atom}
theorem Hv.start (h : Sep L w S) : Hv w S L w := ⟨S, h, Fr.refl S w⟩
theorem Hv.begin (w : World) : Hv w No [] w := Hv.start sep_nil
theorem Hv.begin' (w : World) (S : Nat → Prop) : Hv w S [] w := ⟨No, sep_nil, Ch.refl S w, fun _ h => h.elim⟩
/-- THE FRAME RULE -/
theorem Hv.use (C R : List Atom) (h : Hv w0 S (C ++ R) w) : ∃ T, Sep C w T ∧ ∀ C' w', Hv w T C' w' → Hv w0 S (C' ++ R) w' := by
  obtain ⟨S', hs, hf⟩ := h
  obtain ⟨S1, S2, h1, h2, hd, hu⟩ := hs.split
  refine ⟨S1, h1, ?_⟩
  rintro C' w' ⟨T, hT, hg⟩
  have hR : Sep R w' S2 := h2.keep fun b hb => hg.ch.block b (h2.lt hb) (fun h => hd b h hb)
  refine ⟨fun b => T b ∨ S2 b, hT.join hR (fun b hb h2b => ?_), hf.trans ⟨hg.ch.mono (fun k _ hk => (hu k).2 (.inl hk)), fun b hb => ?_⟩⟩
  · rcases hg.sub b hb with h' | h'
    · exact hd b h' h2b
    · have := h2.lt h2b; omega
  · rcases hb with hb | hb
    · exact (hg.sub b hb).imp (fun h => (hu b).2 (.inl h)) id
    · exact .inl ((hu b).2 (.inr hb))
theorem Hv.all (h : Hv w0 S L w) : ∃ T, Sep L w T ∧ ∀ C' w', Hv w T C' w' → Hv w0 S C' w' := by
  obtain ⟨S', hs, hf⟩ := h
  exact ⟨S', hs, fun C' w' ⟨T, hT, hg⟩ => ⟨T, hT, hf.trans hg⟩⟩
/-- a call that turns nothing of the old: what it has laid comes to it -/
theorem Hv.add (h : Hv w0 S L w) (k : Hv w No C w') : Hv w0 S (C ++ L) w' := by
  obtain ⟨T, hT, hJ⟩ := Hv.use [] L h
  have : T = No := set_eq fun b => ⟨fun hb => hT b hb, fun hb => hb.elim⟩
  subst this
  exact hJ C w' k
theorem Hv.trans (h : Hv w0 S L w) (k : ∀ T, Sep L w T → Hv w T L' w') : Hv w0 S L' w' := by
  obtain ⟨T, hT, hJ⟩ := h.all
  exact hJ _ _ (k T hT)
theorem Hv.below (h : Hv w0 No L w) : Below w0.heap.size w0 w := by
  obtain ⟨S', _, hf⟩ := h
  exact hf.ch.below (Nat.le_refl _) (fun _ _ h => h)
theorem Hv.ch (h : Hv w0 S L w) : Ch S w0 w := by obtain ⟨S', _, hf⟩ := h; exact hf.ch
theorem Hv.size (h : Hv w0 S L w) : w0.heap.size ≤ w.heap.size := h.ch.size
theorem Hv.perm (h : Hv w0 S L w) (hp : L.Perm L') : Hv w0 S L' w := by obtain ⟨T, hT, hf⟩ := h; exact ⟨T, hT.perm hp, hf⟩
theorem eraseIdx_perm {α : Type} : ∀ (L : List α) (i : Nat) (h : i < L.length), L.Perm (L[i] :: L.eraseIdx i)
  | A :: L, 0, _ => .refl _
  | A :: L, i + 1, h => ((eraseIdx_perm L i (by simpa using h)).cons A).trans (.swap _ _ _)
/-- an atom comes to the head -/
theorem Hv.front (i : Nat) (h : Hv w0 S L w) (hi : i < L.length) : Hv w0 S (L[i] :: L.eraseIdx i) w := h.perm (eraseIdx_perm L i hi)
theorem Hv.drop (C R : List Atom) (h : Hv w0 S (C ++ R) w) : Hv w0 S C w := by
  obtain ⟨S', hs, hf⟩ := h
  obtain ⟨S1, S2, h1, _, _, hu⟩ := hs.split
  exact ⟨S1, h1, hf.ch, fun b hb => hf.sub b ((hu b).2 (.inl hb))⟩
theorem Hv.tail {A : Atom} (h : Hv w0 S (A :: L) w) : Hv w0 S L w := by
  obtain ⟨S', ⟨S1, S2, _, h2, _, hu⟩, hf⟩ := h
  exact ⟨S2, h2, hf.ch, fun b hb => hf.sub b ((hu b).2 (.inr hb))⟩
/-- a call that turns nothing that was there, and says no more -/
theorem Hv.still (h : Hv w0 S L w) (hb : Below w.heap.size w w') : Hv w0 S L w' := by
  obtain ⟨S', hs, hf⟩ := h
  exact ⟨S', hs.keep fun b hb' => hb.block b (hs.lt hb'), hf.ch.trans (Ch.of_below hb (Nat.le_refl _)), hf.sub⟩
theorem Hv.drew (h : Hv w0 S L w) : Hv w0 S L w.drew := h.still ((Below.refl _ _).drew)
theorem Hv.drewN (h : Hv w0 S L w) (n : Nat) : Hv w0 S L (w.drewN n) := h.still ⟨rfl, rfl, rfl, Nat.le_refl _, fun _ _ => rfl⟩
theorem Hv.alloc_ (h : Hv w0 S L w) (o : Obj) : Hv w0 S L (w.alloc o) := h.still ((Below.refl _ _).alloc (Nat.le_refl _) _)
end

/-- a block known whole -/
def blkA (g : Nat) (t : TypeId) (cs : Array Value) : Atom where
  P w S := Blk w g t cs ∧ ∀ b, S b ↔ b = g
  lt h hb := by rw [(h.2 _).1 hb]; exact h.1.lt
  keep h hk := ⟨(hk g ((h.2 g).2 rfl)).trans h.1, h.2⟩
/-- a row of the call's own -/
def rowA (v : Value) (e : TypeId) (size n : Nat) (xs : List Value) : Atom where
  P w S := w.ownsRow 0 e size v n xs ∧ ∀ b, S b ↔ v.ownBlock = some b
  lt h hb := (h.1.lt _ ((h.2 _).1 hb)).2
  keep := by
    rintro w w' S ⟨⟨hl, h⟩, hS⟩ hk
    refine ⟨⟨hl, ?_⟩, hS⟩
    rcases h with h | ⟨g, cap, cur, rfl, h0, hh, r⟩
    · exact .inl h
    · exact .inr ⟨g, cap, cur, rfl, h0, (hk g ((hS g).2 rfl)).trans hh, r⟩
/-- something that is of no block -/
def pureA (p : Prop) : Atom where
  P _ S := p ∧ ∀ b, ¬ S b
  lt h hb := absurd hb (h.2 _)
  keep h _ := h
/-- some atoms, with what is not told -/
def packA {α : Type} (f : α → List Atom) : Atom where
  P w S := ∃ a, Sep (f a) w S
  lt h hb := by obtain ⟨a, h⟩ := h; exact h.lt hb
  keep h hk := by obtain ⟨a, h⟩ := h; exact ⟨a, h.keep hk⟩

section
variable {w0 w w' : World} {S : Nat → Prop} {L : List Atom} {g : Nat} {t : TypeId} {cs : Array Value}
theorem Hv.at_ (h : Hv w0 S L w) {i : Nat} {A : Atom} (hi : L[i]? = some A) : ∃ T, A.P w T := by
  obtain ⟨S', hs, hf⟩ := h
  clear hf
  induction L generalizing i S' with
  | nil => cases hi
  | cons B L ih =>
    obtain ⟨S1, S2, h1, h2, _, _⟩ := hs
    cases i with
    | zero => injection hi with hi; subst hi; exact ⟨S1, h1⟩
    | succ i => exact ih hi S2 h2
theorem Sep.at_ {T : Nat → Prop} (h : Sep L w T) {i : Nat} {A : Atom} (hi : L[i]? = some A) : ∃ T, A.P w T := (Hv.start h).at_ hi
theorem Hv.blk (h : Hv w0 S L w) {i : Nat} (hi : L[i]? = some (blkA g t cs)) : Blk w g t cs := by obtain ⟨T, hT⟩ := h.at_ hi; exact hT.1
theorem Hv.row {v : Value} {e : TypeId} {size n : Nat} {xs : List Value} (h : Hv w0 S L w) {i : Nat} (hi : L[i]? = some (rowA v e size n xs)) : w.ownsRow 0 e size v n xs := by obtain ⟨T, hT⟩ := h.at_ hi; exact hT.1
theorem Hv.pure_ {p : Prop} (h : Hv w0 S L w) {i : Nat} (hi : L[i]? = some (pureA p)) : p := by obtain ⟨T, hT⟩ := h.at_ hi; exact hT.1
theorem Hv.open_ {α : Type} {f : α → List Atom} (h : Hv w0 S (packA f :: L) w) : ∃ a, Hv w0 S (f a ++ L) w := by
  obtain ⟨S', ⟨S1, S2, ⟨a, h1⟩, h2, hd, hu⟩, hf⟩ := h
  refine ⟨a, S', ?_, hf⟩
  rw [set_eq hu]
  exact h1.join h2 hd
theorem Hv.close {α : Type} {f : α → List Atom} (a : α) (h : Hv w0 S (f a ++ L) w) : Hv w0 S (packA f :: L) w := by
  obtain ⟨S', hs, hf⟩ := h
  obtain ⟨S1, S2, h1, h2, hd, hu⟩ := hs.split
  exact ⟨S', ⟨S1, S2, ⟨a, h1⟩, h2, hd, hu⟩, hf⟩
theorem Hv.pureI {p : Prop} (hp : p) (h : Hv w0 S L w) : Hv w0 S (pureA p :: L) w := by
  obtain ⟨S', hs, hf⟩ := h
  exact ⟨S', ⟨fun _ => False, S', ⟨hp, fun _ h => h⟩, hs, fun _ h => h.elim, fun b => by simp⟩, hf⟩
theorem hv_fresh (A : Atom) {w w' : World} {T : Nat → Prop} (h : A.P w' T) (hT : ∀ b, T b → w.heap.size ≤ b) (hb : Below w.heap.size w w') : Hv w No [A] w' :=
  ⟨T, Sep.one h, Ch.of_below hb (Nat.le_refl _), fun b hb => .inr (hT b hb)⟩
theorem hv_new (w : World) (t : TypeId) (cs : Array Value) : Hv w No [blkA w.heap.size t cs] (w.alloc (.cells cs t)) :=
  ⟨fun b => b = w.heap.size, Sep.one ⟨Blk.new w t cs, fun _ => Iff.rfl⟩, (Ch.refl _ w).alloc _, fun b hb => .inr (by omega)⟩
theorem Hv.alloc (h : Hv w0 S L w) (t : TypeId) (cs : Array Value) : Hv w0 S (blkA w.heap.size t cs :: L) (w.alloc (.cells cs t)) := h.add (hv_new w t cs)
theorem Hv.set (h : Hv w0 S (blkA g t cs :: L) w) (i : Nat) (u : Value) : Hv w0 S (blkA g t (cs.setIfInBounds i u) :: L) (w.setCell ⟨g, i, none⟩ u) := by
  obtain ⟨T, hT, hJ⟩ := Hv.use [blkA g t cs] L h
  have hb := hT.out
  refine hJ [blkA g t (cs.setIfInBounds i u)] _ ⟨T, Sep.one ⟨hb.1.set_ i u, hb.2⟩, (Ch.refl _ w).setCell (.inl ((hb.2 g).2 rfl)) u, fun b hb => .inl hb⟩
/-- what has turned is one row alone: it has grown, or was stored into -/
theorem Hv.grew {v v' : Value} {e : TypeId} {size n m : Nat} {xs ys : List Value} (h : Hv w0 S (rowA v e size n xs :: L) w) (hg : w.grownBy w' v.ownBlock) (ho : w'.ownsRow 0 e size v' m ys)
    (hat : ∀ b, v'.ownBlock = some b → v.ownBlock = some b ∨ w.heap.size ≤ b) : Hv w0 S (rowA v' e size m ys :: L) w' := by
  obtain ⟨T, hT, hJ⟩ := Hv.use [rowA v e size n xs] L h
  have hb := hT.out
  refine hJ [rowA v' e size m ys] _ ⟨fun b => v'.ownBlock = some b, Sep.one ⟨ho, fun _ => Iff.rfl⟩, (Ch.refl _ w).grown hg (fun k hk => .inl ((hb.2 k).2 hk)), fun b hb' => ?_⟩
  exact (hat b hb').imp (fun h => (hb.2 b).2 h) id
/-- a cell of a row is stored into -/
theorem Hv.rowSet {g n cap : Nat} {e : TypeId} {size : Nat} {xs : List Value} (h : Hv w0 S (rowA (.slice (some ⟨g, 0, none⟩) n cap) e size n xs :: L) w) (j : Nat) (u : Value) :
    Hv w0 S (rowA (.slice (some ⟨g, 0, none⟩) n cap) e size n (xs.set j u) :: L) (w.setCell ⟨g, j, none⟩ u) :=
  h.grew ((h.row (i := 0) rfl).stored j u).2 ((h.row (i := 0) rfl).stored j u).1 (fun _ hb => .inl hb)
theorem Hv.nilRow (h : Hv w0 S L w) (e : TypeId) (size : Nat) : Hv w0 S (rowA (.slice none 0 0) e size 0 [] :: L) w := by
  obtain ⟨S', hs, hf⟩ := h
  exact ⟨S', ⟨fun _ => False, S', ⟨⟨by simp, .inl ⟨rfl, rfl⟩⟩, fun b => by simp [Value.ownBlock]⟩, hs, fun _ h => h.elim, fun b => by simp⟩, hf⟩
end

theorem addr_add0 (g j : Nat) : (⟨g, 0, none⟩ : Addr).add j = ⟨g, j, none⟩ := by
  unfold Addr.add
  by_cases h0 : j = 0 <;> simp [h0]
/-- append of what is laid in a new block ahead: its run as an equation, and what is there then -/
theorem Hv.append {P : Program} {w0 W : World} {S : Nat → Prop} {L : List Atom} {v : Value} {e : TypeId} {size n : Nat} {xs : List Value} (h : Hv w0 S (rowA v e size n xs :: L) W)
    (t ty te : TypeId) {i : TypeInfo} {z : Value} {bytes : Nat} (ht : P.underlying t = some (.slice e)) (hi : P.info? e = some i) (hz : i.zero = some z)
    (hsize : i.size = size) (hby : i.bytes = bytes) (hzs : z.cells.size = size) (hsz : 0 < size) (m : Nat) (hm : 0 < m) (news : Array Value) (hl : news.size = m * size) (h1 : ∀ u ∈ news.toList, u.oneCell' = true)
    (h63 : n + m ≤ maxLen) (hbytes : (n + m) * bytes ≤ 140737488355328) :
    ∃ g cap w', (Builtin.append_ #[t, t] ty #[v, .slice (some ⟨W.heap.size, 0, none⟩) m m]).run P (W.alloc (.cells news te)) = .ok (.slice (some ⟨g, 0, none⟩) (n + m) cap) w' ∧
      Hv w0 S (rowA (.slice (some ⟨g, 0, none⟩) (n + m) cap) e size (n + m) (xs ++ news.toList) :: L) w' ∧ W.heap.size < w'.heap.size ∧ g < w'.heap.size := by
  have hA := h.alloc_ (.cells news te)
  have hown := hA.row (i := 0) rfl
  obtain ⟨v', w', hr, h2, h3, _, h5⟩ := run_append_own_at (P := P) (W.alloc (.cells news te)) 0 t ty e i z size bytes ht hi hz hsize hby hzs hsz v n xs hown ⟨W.heap.size, 0, none⟩ m m news.toList (by simpa using hl) (fun j u hu => by
    have hk : Blk (W.alloc (.cells news te)) W.heap.size te news := Blk.new W te news
    have hj : ((⟨W.heap.size, 0, none⟩ : Addr).add j) = ⟨W.heap.size, j, none⟩ := by
      unfold Addr.add
      by_cases h0 : j = 0 <;> simp [h0]
    rw [hj, hk.cell]
    simpa using hu) h1 h63 hbytes (Nat.zero_le _)
  have h5' : ∀ b, v'.ownBlock = some b → v.ownBlock = some b ∨ (W.alloc (.cells news te)).heap.size ≤ b := fun b hb => by
    rcases h5 with h5 | h5
    · left; rw [← h5]; exact hb
    · right; rw [h5] at hb; injection hb with hb; omega
  have hH := hA.grew h3 h2 h5'
  obtain ⟨g, cap, rfl, _, hlt⟩ := h2.form (by omega)
  exact ⟨g, cap, w', hr, hH, by have := h3.size; simp at this; omega, hlt⟩

theorem range_filterMap {α : Type} (L : List α) : (List.range L.length).filterMap (fun i => L[i]?) = L := by
  induction L with
  | nil => rfl
  | cons A L ih =>
    rw [List.length_cons, List.range_succ_eq_map, List.filterMap_cons]
    simp only [List.getElem?_cons_zero, List.filterMap_map]
    rw [show ((fun i => (A :: L)[i]?) ∘ Nat.succ) = (fun i => L[i]?) from funext fun i => by simp, ih]
theorem pick_perm {α : Type} (L : List α) (idx : List Nat) (hn : idx.Nodup) : ∃ rest, L.Perm (idx.filterMap (fun i => L[i]?) ++ rest) := by
  have h1 : idx.filterMap (fun i => L[i]?) = (idx.filter (fun i => decide (i < L.length))).filterMap (fun i => L[i]?) := by
    clear hn
    induction idx with
    | nil => rfl
    | cons i idx ih =>
      by_cases hi : i < L.length
      · rw [List.filter_cons_of_pos (by simpa using hi), List.filterMap_cons, List.filterMap_cons, ih]
      · rw [List.filter_cons_of_neg (by simpa using hi), List.filterMap_cons, List.getElem?_eq_none (by omega), ih]
  have h2 : (List.range L.length).Perm (idx.filter (fun i => decide (i < L.length)) ++ (List.range L.length).filter (fun i => !(idx.contains i))) := by
    refine (List.perm_ext_iff_of_nodup List.nodup_range ?_).2 fun i => ?_
    · refine List.nodup_append.2 ⟨hn.filter _, List.nodup_range.filter _, fun a ha b hb e => ?_⟩
      subst e
      have h3 := (List.mem_filter.1 ha).1
      have h4 := (List.mem_filter.1 hb).2
      simp [h3] at h4
    · simp only [List.mem_append, List.mem_filter, List.mem_range]
      by_cases hi : i ∈ idx <;> simp [hi]
  refine ⟨((List.range L.length).filter (fun i => !(idx.contains i))).filterMap (fun i => L[i]?), ?_⟩
  rw [h1, ← List.filterMap_append]
  have h3 := h2.filterMap (fun i => L[i]?)
  rw [range_filterMap] at h3
  exact h3
theorem Hv.last {w0 w : World} {S : Nat → Prop} {C : List Atom} {A : Atom} (h : Hv w0 S (C ++ [A]) w) : ∃ T, A.P w T := by
  obtain ⟨S', hs, _⟩ := h
  obtain ⟨S1, S2, _, h2, _, _⟩ := hs.split
  exact ⟨S2, h2.out⟩
/-- some of the atoms, in another order: by their places -/
theorem Hv.pick {w0 w : World} {S : Nat → Prop} {L : List Atom} (idx : List Nat) (h : Hv w0 S L w) (hn : idx.Nodup := by decide) : Hv w0 S (idx.filterMap (fun i => L[i]?)) w := by
  obtain ⟨rest, hp⟩ := pick_perm L idx hn
  exact (h.perm hp).drop _ rest
end Go.LawEnd

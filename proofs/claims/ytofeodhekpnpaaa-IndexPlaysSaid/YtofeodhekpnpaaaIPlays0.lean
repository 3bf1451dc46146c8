/- IndexPlays: the two indexes at the beginning; where the law looks no further; a range over a function without a loop variable. -/
import Derived.Test.YtofeodhekpnpaaaISame
import Derived.Test.YtofeodhekpnpaaaNew
namespace Go.Proofs.Ytofeodhekpnpaaa
open Go.RowKit Go.LawEnd Go.Shelf

/-- a range over a function whose assignment lays nothing -/
theorem rangeFunc_plain {F : Fence} {n : Nat} {P : Program} {α : Type} {g : Operand} {ps : Array Tmp} {assign body : Code} {Q : Exit → Act → World → Prop} {a : Act} {w : World}
    (hro : F.round = none) (h1 : 1 ≤ n) {gf : Nat} {lb : Array Value} (hg : a.eval g = .func (.func gf) #[] lb) (hFg : F.fn gf) (eg : ∀ args w, (callFunc gf args).run P w = .ok (.enter gf args) w)
    {encs : α → Array Value} {Kp : World → World → Prop} {S Sp : List α → Prop} {N : Nat} (hseq : SeqStopsK F (n - 1) P gf lb encs Kp S Sp N w)
    (hKr : ∀ A : World, Kp A A) (hKt : ∀ {A B C : World}, Kp A B → Kp B C → Kp A C) (hKb : ∀ (W : World) (l : Nat) (o o' : Obj), w.heap.size ≤ l → W.heap[l]? = some o → o.isCells = false → o.isWalk = false → Kp W (W.putObj l o')) (hps : ∀ x, (encs x).size = ps.size)
    (I : List α → World → Prop) (Ix : Code → List α → World → Prop) (hI : OwnFrom w.heap.size I) (hIx : ∀ c, OwnFrom w.heap.size (Ix c)) (h0 : I [] w)
    (hround : ∀ (l : Nat) (pre : List α) (x : α) (W : World) (K : Act → World → Prop), I pre W →
      (∀ a', (∀ (l : Nat) (pre : List α) (W1 : World), w.heap.size ≤ l → I pre W1 → pre.length < N →
        body.wpIn (F.inRound l) (n - 1 - 1) P (ownPostG w.heap.size Kp I Ix (pre ++ [x]) W1) a' W1) → K a' W) →
      assign.wpIn (F.inRound l) (n - 1 - 1) P (Exit.then K (fun _ _ _ => False)) { tmps := (ps.zip (encs x)).foldl (fun t (p, v) => t.setIfInBounds p v) a.tmps, defers := [] } W)
    (hdone : ∀ (D : Nat) (xs : List α) (W : World), w.heap.size ≤ D → S xs → I xs W → W.heap[D]? = some (.deferred (some [])) → Q .normal { a with defers := { target := .collected D, args := #[] } :: a.defers } W)
    (hstop : ∀ (D : Nat) (c : Code) (pre : List α) (W : World), w.heap.size ≤ D → Sp pre → Ix c pre W → W.heap[D]? = some (.deferred (some [])) → c.wpIn F n P Q { a with defers := { target := .collected D, args := #[] } :: a.defers } W) :
    (Code.rangeFunc g ps assign body).wpIn F n P Q a w := by
  refine wpIn_rangeFunc_ownH hro h1 hg hFg eg hseq hKt hKb (Below.refl _ _) hps I Ix hI hIx h0
    (fun x a' _ => ∀ (l : Nat) (pre : List α) (W1 : World), w.heap.size ≤ l → I pre W1 → pre.length < N → body.wpIn (F.inRound l) (n - 1 - 1) P (ownPostG w.heap.size Kp I Ix (pre ++ [x]) W1) a' W1)
    (fun _ _ _ _ _ _ h _ _ => h) ?_ ?_ hdone hstop
  · intro l pre x W K hi hK
    exact hround l pre x W K hi fun a' ha' => hK a' W ((KeepsOthers.refl W).from _) (hKr W) hi ha'
  · intro l pre x a' W hl _ hi hbody hlen
    exact hbody l pre W hl hi hlen

theorem hv_idx {w w' : World} {x b n slots : Nat} {g : Rowd} {l : Pls} {f : Ats} (h : Idx w' x g b n l f slots) (hx : w.heap.size ≤ x) (hg : w.heap.size ≤ g.g) (hb : w.heap.size ≤ b) (hB : Below w.heap.size w w') : Hv w No [idxA x n l f slots] w' :=
  hv_fresh (idxA x n l f slots) (T := fun j => j = x ∨ j = g.g ∨ j = b) ⟨g, b, h, fun _ => Iff.rfl⟩ (by rintro j (e | e | e) <;> subst e <;> assumption) hB
theorem hv_ref {w w' : World} {r k slots : Nat} (h : RN w w' r k slots) : Hv w No [refA r slots (List.replicate k (-1, false))] w' := by
  obtain ⟨vS, vD, hri⟩ := h.ri
  refine ref_close (vS := vS) (vD := vD) ?_
  have eS : rS (List.replicate k ((-1 : Int), false)) = ints (List.replicate k (-1)) := by unfold rS; rw [List.map_replicate]
  have eD : rD (List.replicate k ((-1 : Int), false)) = bools (List.replicate k false) := by unfold rD; rw [List.map_replicate]
  rw [eS, eD, List.length_replicate]
  have r0 : w'.ownsRow 0 3 1 vS k (ints (List.replicate k (-1))) := by
    refine ⟨hri.rowS.1, ?_⟩
    rcases hri.rowS.2 with h0 | ⟨g, cap, cur, e, _, r⟩
    · exact .inl h0
    · exact .inr ⟨g, cap, cur, e, Nat.zero_le _, r⟩
  have r1 : w'.ownsRow 0 4 1 vD k (bools (List.replicate k false)) := by
    refine ⟨hri.rowD.1, ?_⟩
    rcases hri.rowD.2 with h0 | ⟨g, cap, cur, e, _, r⟩
    · exact .inl h0
    · exact .inr ⟨g, cap, cur, e, Nat.zero_le _, r⟩
  refine ⟨fun j => j = r ∨ vS.ownBlock = some j ∨ vD.ownBlock = some j, ⟨fun j => j = r, fun j => vS.ownBlock = some j ∨ vD.ownBlock = some j, ⟨hri.head, fun _ => Iff.rfl⟩, ⟨fun j => vS.ownBlock = some j, fun j => vD.ownBlock = some j, ⟨r0, fun _ => Iff.rfl⟩, Sep.one ⟨r1, fun _ => Iff.rfl⟩, ?_, fun _ => Iff.rfl⟩, ?_, fun _ => Iff.rfl⟩, Ch.of_below h.below (Nat.le_refl _), ?_⟩
  · intro j hS hD
    obtain ⟨c1, k1⟩ := own_obj hri.rowS hS
    obtain ⟨c2, k2⟩ := own_obj hri.rowD hD
    exact Blk.ne_ k1 k2 (by decide) rfl
  · rintro j rfl (hS | hD)
    · obtain ⟨c1, k1⟩ := own_obj hri.rowS hS
      exact Blk.ne_ k1 hri.head (by decide) rfl
    · obtain ⟨c2, k2⟩ := own_obj hri.rowD hD
      exact Blk.ne_ k2 hri.head (by decide) rfl
  · rintro j (rfl | hS | hD)
    · exact .inr hri.rB
    · exact .inr (hri.rowS.lt j hS).1
    · exact .inr (hri.rowD.lt j hD).1
theorem DidA.of {w w' : World} {T : Nat → Prop} {x r n slots len : Nat} {e : Ending} (h : DidA w T x r n slots len e w') : e = .returned (.bool true) ∧ ∃ l' f' n', n' ≤ n + 1 ∧ Ok slots l' f' ∧ l'.length = len ∧ Hv w T [idxA x n' l' f' slots, refA r slots l'] w' := h
theorem does_any_a {w : World} {x r slots n : Nat} {l : Pls} {f : Ats} {T : Nat → Prop} (a i s : Int) (t : Bool) (h : Hid (Sep [idxA x n l f slots, refA r slots l] w T)) (hok : Hid (Ok slots l f)) (hl : l.length ≤ 4096) (h2 : slots ≤ 1024) (hn : n < maxLen) :
    Calls Try.prog 11 #[.pointer (some ⟨x, 0, none⟩), .pointer (some ⟨r, 0, none⟩), .agg #[.int .i64 a, .int .i64 i, .int .i64 s, .bool t]] w (DidA w T x r n slots l.length) := by
  by_cases h0 : a = 0
  · subst h0; exact does_put_a i s t h hok hl h2 hn
  · by_cases h1 : a = 1
    · subst h1; exact does_drop_a i s t h hok h2
    · exact does_clean_a a i s t (by simpa using h0) (by simpa using h1) h hok
end Go.Proofs.Ytofeodhekpnpaaa

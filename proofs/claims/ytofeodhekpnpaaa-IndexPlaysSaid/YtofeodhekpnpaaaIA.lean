/- An index, and the document's, as atoms; what the program's calls do to them. -/
import Derived.Test.YtofeodhekpnpaaaFull
import Derived.Test.YtofeodhekpnpaaaRefPut
import Derived.Test.YtofeodhekpnpaaaSep
import Derived.Test.YtofeodhekpnpaaaQb
import Derived.Test.YtofeodhekpnpaaaAwake
namespace Go.Proofs.Ytofeodhekpnpaaa
open Go.RowKit Go.LawEnd

def idxA (x n : Nat) (l : Pls) (f : Ats) (slots : Nat) : Atom where
  P w S := ∃ g b, Idx w x g b n l f slots ∧ ∀ j, S j ↔ j = x ∨ j = g.g ∨ j = b
  lt h hb := by
    obtain ⟨g, b, h, hs⟩ := h
    rcases (hs _).1 hb with e | e | e <;> subst e
    · exact h.head.lt
    · exact h.row.lt
    · exact h.map.lt
  keep h hk := by
    obtain ⟨g, b, h, hs⟩ := h
    refine ⟨g, b, ⟨?_, ?_, ?_⟩, hs⟩
    · exact (hk x ((hs x).2 (.inl rfl))).trans h.head
    · exact (hk g.g ((hs g.g).2 (.inr (.inl rfl)))).trans h.row
    · exact MapAt.of_block h.map (hk b ((hs b).2 (.inr (.inr rfl))))
noncomputable abbrev rS (l : Pls) : List Value := ints (l.map (·.1))
noncomputable abbrev rD (l : Pls) : List Value := bools (l.map (·.2))
/-- the document's index -/
noncomputable def refA (r slots : Nat) (l : Pls) : Atom := packA fun v : Value × Value => [blkA r 70 #[v.1, v.2, .int .i64 (slots : Int)], rowA v.1 3 1 l.length (rS l), rowA v.2 4 1 l.length (rD l)]
section
variable {w : World} {x n slots : Nat} {l : Pls} {f : Ats} {T : Nat → Prop}
theorem idx_turn {w' : World} {g : Rowd} {b n' : Nat} {l' : Pls} {f' : Ats} (hT : ∀ j, T j ↔ j = x ∨ j = g.g ∨ j = b) (hi : Idx w' x g b n' l' f' slots) (hc : Ch (fun j => j = g ∨ j = b) w w') : Hv w T [idxA x n' l' f' slots] w' :=
  ⟨T, Sep.one ⟨g, b, hi, hT⟩, hc.mono fun k _ hk => (hT k).2 (.inr hk), fun _ hb => .inl hb⟩
theorem put_a (i s : Int) (d : Bool) (h : Hid (Sep [idxA x n l f slots] w T)) (hok : Ok slots l f) (hl : l.length ≤ 4096) (h2 : slots ≤ 1024) (hn : n < maxLen) :
    Calls Try.prog 20 #[.pointer (some ⟨x, 0, none⟩), .int .i64 i, .agg #[.int .i64 s, .bool d]] w fun e w' => e = .returned (.tuple #[.agg #[.int .i64 (putF slots l f i s d).1.1, .bool (putF slots l f i s d).1.2.1], .int .i64 (putF slots l f i s d).1.2.2]) ∧ Hv w T [idxA x (n + 1) (putF slots l f i s d).2.1 (putF slots l f i s d).2.2 slots] w' := by
  obtain ⟨g, b, hi, hT⟩ := h.out.out
  exact (put_full i s d hi hok.fit hl h2 hn).mono fun e w' he => ⟨he.1, idx_turn hT he.2.1 he.2.2⟩
theorem drop_a (i : Int) (h : Hid (Sep [idxA x n l f slots] w T)) (hok : Ok slots l f) (h2 : slots ≤ 1024) :
    Calls Try.prog 21 #[.pointer (some ⟨x, 0, none⟩), .int .i64 i] w fun e w' => e = .returned (.tuple #[.agg #[.int .i64 (dropF l f i).1.1, .bool (dropF l f i).1.2.1], .int .i64 (dropF l f i).1.2.2]) ∧ Hv w T [idxA x n (dropF l f i).2.1 (dropF l f i).2.2 slots] w' := by
  obtain ⟨g, b, hi, hT⟩ := h.out.out
  exact (drop_full i hi hok.fit h2).mono fun e w' he => ⟨he.1, idx_turn hT he.2.1 he.2.2⟩
theorem clean_a (i : Int) (h : Hid (Sep [idxA x n l f slots] w T)) (hok : Ok slots l f) :
    Calls Try.prog 18 #[.pointer (some ⟨x, 0, none⟩), .int .i64 i] w fun e w' => e = .returned (.int .i64 (cleanF l i).1) ∧ Hv w T [idxA x n (cleanF l i).2 f slots] w' := by
  obtain ⟨g, b, hi, hT⟩ := h.out.out
  exact (clean_full i hi hok.fit).mono fun e w' he => ⟨he.1, idx_turn hT he.2.1 he.2.2⟩
theorem get_a (i : Int) (h : Hid (Sep [idxA x n l f slots] w T)) (hok : Ok slots l f) :
    Calls Try.prog 13 #[.pointer (some ⟨x, 0, none⟩), .int .i64 i] w fun e w' => e = .returned (.tuple #[.agg #[.int .i64 (getF l i).1, .bool (getF l i).2.1], .int .i64 (getF l i).2.2]) ∧ Below w.heap.size w w' := by
  obtain ⟨g, b, hi, hT⟩ := h.out.out
  exact get_full i hi hok.fit
theorem len_a (h : Hid (Sep [idxA x n l f slots] w T)) (hok : Ok slots l f) (hl : l.length ≤ 4096) :
    Calls Try.prog 15 #[.pointer (some ⟨x, 0, none⟩)] w fun e w' => e = .returned (.int .i64 ((l.filter some_).length : Int)) ∧ Below w.heap.size w w' := by
  obtain ⟨g, b, hi, hT⟩ := h.out.out
  exact len_any hi hl hok.fit
theorem dirty_a (h : Hid (Sep [idxA x n l f slots] w T)) (hl : l.length ≤ 4096) :
    Calls Try.prog 16 #[.pointer (some ⟨x, 0, none⟩)] w fun e w' => e = .returned (.int .i64 ((l.filter dirt_).length : Int)) ∧ Below w.heap.size w w' := by
  obtain ⟨g, b, hi, hT⟩ := h.out.out
  exact dirty_any hi hl
theorem at_a (s : Int) (h : Hid (Sep [idxA x n l f slots] w T)) (h2 : slots ≤ 1024) (h0 : 0 ≤ s) (h1 : s < slots) :
    Calls Try.prog 14 #[.pointer (some ⟨x, 0, none⟩), .int .i64 s] w fun e w' => e = .returned (.tuple #[.int .i64 ((f s).getD 0), .int .i64 (if (f s).isSome then 0 else 14)]) ∧ Below w.heap.size w w' := by
  obtain ⟨g, b, hi, hT⟩ := h.out.out
  cases hf : f s with
  | none => exact (at_none s hi h0 h1 h2 hf).mono fun e w' he => by obtain ⟨rfl, rfl⟩ := he; exact ⟨rfl, Below.refl _ _⟩
  | some v => exact (at_some s v hi h0 h1 h2 hf).mono fun e w' he => by obtain ⟨rfl, rfl⟩ := he; exact ⟨rfl, Below.refl _ _⟩
end
end Go.Proofs.Ytofeodhekpnpaaa

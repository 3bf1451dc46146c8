/- Several rows of the call's own, no two of which share a block; over any program. -/
import Derived.Below
import Derived.Laws.OwnMore
import Derived.Deep.AppendLies
import Derived.Deep.Draws
namespace Go.LawEnd
open Go.RowKit

/-- two slice values share no block -/
def Ap (u v : Value) : Prop := ∀ g, u.ownBlock = some g → v.ownBlock ≠ some g
theorem Ap.symm {u v : Value} (h : Ap u v) : Ap v u := fun g h1 h2 => h g h2 h1
theorem Ap.nil_ (v : Value) : Ap (.slice none 0 0) v := fun _ h => by cases h
theorem Ap.nil_r (v : Value) : Ap v (.slice none 0 0) := (Ap.nil_ v).symm
theorem Ap.keep {u v : Value} (h : Ap v u) : u.ownBlock = none ∨ u.ownBlock ≠ v.ownBlock := by
  cases hu : u.ownBlock with
  | none => exact .inl rfl
  | some g => right; intro hv; exact h g hv.symm hu
theorem Ap.step {u v v' : Value} {w : World} {base e size n : Nat} {xs : List Value} (h : Ap v u) (hu : w.ownsRow base e size u n xs) (hv : v'.ownBlock = v.ownBlock ∨ ∃ H, w.heap.size ≤ H ∧ v'.ownBlock = some H) : Ap v' u := by
  intro g h1 h2
  rcases hv with hv | ⟨H, hH, hv⟩
  · exact h g (by rw [← hv]; exact h1) h2
  · rw [hv] at h1
    injection h1 with h1
    have := (hu.lt g h2).2
    omega

structure Rw where
  v : Value
  e : TypeId
  size : Nat
  n : Nat
  xs : List Value

def Rw.Own (r : Rw) (B : Nat) (w : World) : Prop := w.ownsRow B r.e r.size r.v r.n r.xs
structure OwnAll (B : Nat) (w : World) (L : List Rw) : Prop where
  own : ∀ r ∈ L, r.Own B w
  apart : L.Pairwise fun r s => Ap r.v s.v

theorem OwnAll.nil (B : Nat) (w : World) : OwnAll B w [] := ⟨fun _ h => (by cases h), .nil⟩
theorem OwnAll.alloc {B : Nat} {w : World} {L : List Rw} (h : OwnAll B w L) (o : Obj) : OwnAll B (w.alloc o) L := ⟨fun r hr => (h.own r hr).alloc o, h.apart⟩
theorem OwnAll.drew {B : Nat} {w : World} {L : List Rw} (h : OwnAll B w L) : OwnAll B w.drew L := ⟨fun r hr => h.own r hr, h.apart⟩
theorem OwnAll.below {B C : Nat} {w w' : World} {L : List Rw} (h : OwnAll B w L) (hb : Below C w w') (hC : w.heap.size ≤ C) : OwnAll B w' L :=
  ⟨fun r hr => World.ownsRow.kept (row := none) (h.own r hr) ⟨hb.os, hb.tape, hb.output, hb.size, fun i hi _ => hb.block i (by omega)⟩ (by cases r.v.ownBlock <;> simp), h.apart⟩
theorem OwnAll.grown {B : Nat} {w w' : World} {L : List Rw} {row : Option Nat} (h : OwnAll B w L) (hg : w.grownBy w' row) (hr : ∀ r ∈ L, r.v.ownBlock = none ∨ r.v.ownBlock ≠ row) : OwnAll B w' L :=
  ⟨fun r hm => World.ownsRow.kept (h.own r hm) hg (hr r hm), h.apart⟩
theorem OwnAll.cons {B : Nat} {w : World} {L : List Rw} {r : Rw} (h : OwnAll B w L) (hr : r.Own B w) (ha : ∀ s ∈ L, Ap r.v s.v) : OwnAll B w (r :: L) :=
  ⟨fun s hs => (List.mem_cons.1 hs).elim (fun e => e ▸ hr) (h.own s), .cons ha h.apart⟩
theorem OwnAll.tail {B : Nat} {w : World} {L : List Rw} {r : Rw} (h : OwnAll B w (r :: L)) : OwnAll B w L :=
  ⟨fun s hs => h.own s (List.mem_cons_of_mem _ hs), (List.pairwise_cons.1 h.apart).2⟩

/-- one row has turned (an append; a store): the others are as they were, and apart. -/
theorem OwnAll.step {B : Nat} {w w' : World} {r r' : Rw} (L1 L2 : List Rw) (h : OwnAll B w (L1 ++ r :: L2)) (hg : w.grownBy w' r.v.ownBlock) (hown : r'.Own B w')
    (hat : r'.v.ownBlock = r.v.ownBlock ∨ ∃ H, w.heap.size ≤ H ∧ r'.v.ownBlock = some H) : OwnAll B w' (L1 ++ r' :: L2) := by
  obtain ⟨ho, ha⟩ := h
  rw [List.pairwise_append] at ha
  obtain ⟨a1, a2, a3⟩ := ha
  rw [List.pairwise_cons] at a2
  have hL1 : ∀ s ∈ L1, Ap r.v s.v := fun s hs => (a3 s hs r (List.mem_cons_self ..)).symm
  have hm1 : ∀ s ∈ L1, s ∈ L1 ++ r :: L2 := fun s hs => List.mem_append_left _ hs
  have hm2 : ∀ s ∈ L2, s ∈ L1 ++ r :: L2 := fun s hs => List.mem_append_right _ (List.mem_cons_of_mem _ hs)
  refine ⟨fun s hs => ?_, ?_⟩
  · rcases List.mem_append.1 hs with hs | hs
    · exact World.ownsRow.kept (ho s (hm1 s hs)) hg (hL1 s hs).keep
    · rcases List.mem_cons.1 hs with rfl | hs
      · exact hown
      · exact World.ownsRow.kept (ho s (hm2 s hs)) hg (a2.1 s hs).keep
  · rw [List.pairwise_append]
    refine ⟨a1, ?_, fun s hs t ht => ?_⟩
    · rw [List.pairwise_cons]
      exact ⟨fun s hs => (a2.1 s hs).step (ho s (hm2 s hs)) hat, a2.2⟩
    · rcases List.mem_cons.1 ht with rfl | ht
      · exact ((hL1 s hs).step (ho s (hm1 s hs)) hat).symm
      · exact a3 s hs t (List.mem_cons_of_mem _ ht)

/-- an append of what was laid ahead in a block of its own: the row that has grown, as 'wpList_append_lies' leaves it. -/
theorem OwnAll.appended {B : Nat} {w w' : World} {o : Obj} {v : Value} {e size n m g cap H : Nat} {xs ys : List Value} (L1 L2 : List Rw) (h : OwnAll B w (L1 ++ ⟨v, e, size, n, xs⟩ :: L2))
    (hown : w'.ownsRow B e size (.slice (some ⟨g, 0, none⟩) m cap) m ys) (hg : (w.alloc o).grownBy w' v.ownBlock) (hat : v.ownBlock = some g ∨ g = H) (hH : w.heap.size + 1 ≤ H) :
    OwnAll B w' (L1 ++ ⟨.slice (some ⟨g, 0, none⟩) m cap, e, size, m, ys⟩ :: L2) := by
  refine OwnAll.step (r := ⟨v, e, size, n, xs⟩) (w := w.alloc o) L1 L2 (h.alloc o) hg hown ?_
  rcases hat with hat | hat
  · left; rw [hat]; rfl
  · right; exact ⟨H, by simp; omega, by rw [hat]; rfl⟩

theorem below_appended {w wr w' : World} {o : Obj} {v : Value} {e size n : Nat} {xs : List Value} (h : Below w.heap.size w wr) (hv : wr.ownsRow w.heap.size e size v n xs) (hg : (wr.alloc o).grownBy w' v.ownBlock) : Below w.heap.size w w' :=
  (h.alloc h.size o).grown hg (by have := h.size; simp; omega) (fun j hj => (hv.lt j hj).1)
end Go.LawEnd

/- What a ring is in memory, and what its channel's turns do to it. -/
import Derived.Test.YtpfhmkfeneejeaaChecked
import Derived.Test.YtpfhmkfeneejeaaSel2
import Derived.Test.YtpfhmkfeneejeaaCh
import Derived.WalkKit
import Derived.WalkSpells
import Derived.WalkLawsBesides
import Derived.Lib.Hide
import Derived.Deep.DeepCutAuto
import Derived.Conc.LoneSelectN
namespace Go.Proofs.Ytpfhmkfeneejeaa
open Go.RowKit Go.LawEnd Go.Conc

theorem infoInt : (Try.prog.info? 3).map (fun i => i.bytes) = some 8 := by kernel_rfl
theorem infoPtr : (Try.prog.info? 33).map (fun i => i.bytes) = some 8 := by kernel_rfl
theorem infoPair : (Try.prog.info? 29).map (fun i => i.bytes) = some 24 := by kernel_rfl

theorem make_chan {P : Program} {t e : TypeId} {d : ChanDir} {b : Nat} (ht : P.underlying t = some (.chan d e)) (hi : (P.info? e).map (fun i => i.bytes) = some b) (hb : b ≤ 100) (n : Nat) (hn : n ≤ 100000) (w : World) :
    (Instr.makeChan t (.int .i64 (n : Int))).run P w = .ok (.chan (some w.heap.size)) (w.alloc (.chan n #[] false 0 0 false)) := by
  obtain ⟨i, hi, hb'⟩ := Option.map_eq_some_iff.1 hi
  have h1 : ¬ ((n : Int) < 0 ∨ (n : Int) > IntKind.i64.max ∨ (i.bytes : Int) * (n : Int) > 2 ^ 48 - 112) := by
    rw [hb']
    have h2 := Nat.mul_le_mul hb hn
    have h3 : (b : Int) * (n : Int) = ((b * n : Nat) : Int) := by simp
    have hm : IntKind.i64.max = 9223372036854775807 := by decide
    omega
  have e1 : Sem.run P (asIntOf (.int .i64 (n : Int))) w = .ok (.i64, (n : Int)) w := rfl
  have e2 : Sem.run P program w = .ok P w := rfl
  simp only [Instr.makeChan, asInt, Sem.run_bind, run_underlying ht, typeInfo, newObj, Sem.run_pure, Result.andThen_ok, e1, e2, hi]
  rw [if_neg h1]
  rfl

/-- a ring at p, its channel at c -/
structure Ring (T : TypeId) (w : World) (p c cap : Nat) (q : List Value) (closed : Bool) : Prop where
  head : Blk w p T #[.chan (some c), .bool closed]
  chan : ∃ s r, w.heap[c]? = some (.chan cap q.toArray closed s r false)

section
variable {T : TypeId} {w w' : World} {p c cap s r : Nat} {q : List Value} {cl : Bool} {x : Value}
theorem Ring.ne (h : Ring T w p c cap q cl) : p ≠ c := by
  rintro rfl
  obtain ⟨s, r, hc⟩ := h.chan
  have := h.head
  unfold Blk at this
  rw [hc] at this
  cases this
theorem Ring.plt (h : Ring T w p c cap q cl) : p < w.heap.size := h.head.lt
theorem Ring.clt (h : Ring T w p c cap q cl) : c < w.heap.size := by obtain ⟨s, r, hc⟩ := h.chan; exact lt_of_obj hc
theorem Ring.turned (h : Ring T w p c cap q cl) {q' : List Value} (s r : Nat) :
    Ring T (w.setChan c cap q'.toArray cl s r false) p c cap q' cl ∧ Ch (fun k => k = c) w (w.setChan c cap q'.toArray cl s r false) ∧ (w.setChan c cap q'.toArray cl s r false).heap.size = w.heap.size := by
  have hch : Ch (fun k => k = c) w (w.setChan c cap q'.toArray cl s r false) := (Ch.refl (fun k => k = c) w).setChan (.inl rfl) _ _ _ _ _ _
  exact ⟨⟨h.head.ch hch h.ne, s, r, heap_setChan _ _ _ _ _ _ _ _ h.clt⟩, hch, size_setChan _ _ _ _ _ _ _ _⟩
theorem Ring.putted (h : Ring T w p c cap q false) (_hc : w.heap[c]? = some (.chan cap q.toArray false s r false)) (x : Value) :
    Ring T (w.setChan c cap (q ++ [x]).toArray false (s + 1) r false) p c cap (q ++ [x]) false ∧ Ch (fun k => k = c) w (w.setChan c cap (q ++ [x]).toArray false (s + 1) r false) ∧ (w.setChan c cap (q ++ [x]).toArray false (s + 1) r false).heap.size = w.heap.size :=
  h.turned _ _
theorem Ring.taken (h : Ring T w p c cap (x :: q) cl) (_hc : w.heap[c]? = some (.chan cap (x :: q).toArray cl s r false)) :
    Ring T (w.setChan c cap q.toArray cl s (r + 1) false) p c cap q cl ∧ Ch (fun k => k = c) w (w.setChan c cap q.toArray cl s (r + 1) false) ∧ (w.setChan c cap q.toArray cl s (r + 1) false).heap.size = w.heap.size :=
  h.turned _ _
theorem Ring.ch {S : Nat → Prop} (h : Ring T w p c cap q cl) (hc : Ch S w w') (hp : ¬ S p) (hcc : ¬ S c) : Ring T w' p c cap q cl := by
  obtain ⟨s, r, hh⟩ := h.chan
  exact ⟨h.head.ch hc hp, s, r, (hc.block c (lt_of_obj hh) hcc).trans hh⟩
theorem Ring.below {B : Nat} (h : Ring T w p c cap q cl) (hb : Below B w w') (hp : p < B) (hc : c < B) : Ring T w' p c cap q cl := by
  obtain ⟨s, r, hh⟩ := h.chan
  exact ⟨h.head.below hb hp, s, r, (hb.block c hc).trans hh⟩
end
end Go.Proofs.Ytpfhmkfeneejeaa

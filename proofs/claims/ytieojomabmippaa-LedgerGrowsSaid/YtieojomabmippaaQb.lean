/- A region that draws its order, reads, and calls what turns nothing that was there: walked once; over any program. -/
import Derived.Deep.QuietTactic
import Derived.BigQuiet
import Derived.BigGuardPart
import Derived.Below
namespace Go.LawEnd
open Go.RowKit

/-- a world in which all that lay below B in V lies as it lay -/
structure ExtB (B : Nat) (V : World) where
  w : World
  below : Below B V w
instance (B : Nat) (V : World) : Nonempty (ExtB B V) := ⟨⟨V, Below.refl _ _⟩⟩
instance (B : Nat) (V : World) : Inhabited (ExtB B V) := ⟨⟨V, Below.refl _ _⟩⟩

theorem wp_region_quiet_below {P : Program} {id : Nat} {Q : Exit → Act → World → Prop} {a : Act} {V : World} {l : List Oper} (hm : P.follows .mixedOrders = true) (hB : Region.lexB .any l.toArray = true)
    (h : wpQuiet P l.toArray (fun w' => ∃ q : ExtB V.heap.size V, w' = q.w) (fun a' => ∀ w', (∃ q : ExtB V.heap.size V, w' = q.w) → Q .normal a' w') l a) : (Code.region id l.toArray true).wp P Q a V :=
  wp_region_quiet (C := fun w' => ∃ q : ExtB V.heap.size V, w' = q.w) hm hB ⟨⟨V.drew, (Below.refl _ V).drew⟩, rfl⟩ (by simpa using h)

section
variable {P : Program} {f : FuncId} {args : Array Value} {B : Nat} {V : World} {v : Value}
theorem calls_ext (hB : B ≤ V.heap.size) (q : ExtB B V) (h : Calls P f args q.w fun e w' => e = .returned v ∧ Below q.w.heap.size q.w w') : Calls P f args q.w fun e w'' => e = .returned v ∧ ∃ q' : ExtB B V, w'' = q'.w :=
  h.mono fun _ w' ⟨he, hb⟩ => ⟨he, ⟨w', q.below.trans (hb.mono (Nat.le_trans hB q.below.size))⟩, rfl⟩
theorem calls_ext_same (q : ExtB B V) (h : Calls P f args q.w fun e w' => e = .returned v ∧ q.w = w') : Calls P f args q.w fun e w'' => e = .returned v ∧ ∃ q' : ExtB B V, w'' = q'.w :=
  h.mono fun _ _ ⟨he, hw⟩ => ⟨he, q, hw.symm⟩
end
end Go.LawEnd

/- The like inside a fence, a loop's round too: a region that draws its order, has no defer, reads, and calls what turns nothing that was there; over any program. -/
import Derived.Test.YtbfmgdkiigkioaaQb
import Derived.Sort.BigQuietIn
import Derived.OwnWalkIn
import Derived.RangeFuncCalls
namespace Go.LawEnd
open Go.RowKit

def noDefer (l : List Oper) : Bool := l.all fun o => match o.op with | .defer _ => false | _ => true
section
variable {F : Fence} {n : Nat} {P : Program} {ops : Array Oper} {md : Region.Mode} {C : World → Prop}
theorem noDefer_at {l : List Oper} (h : noDefer l = true) {i : Nat} {o : Oper} (ho : l[i]? = some o) : ∀ c, o.op ≠ .defer c := by
  intro c hc
  have h1 := List.all_eq_true.1 h o (List.mem_of_getElem? ho)
  simp [hc] at h1
theorem oper_in_of_quiet {o : Oper} {a : Act} {K : Act → Prop} {K' : Act → World → Prop} {Q' : Exit → Act → World → Prop} {w : World} (hd : ∀ c, o.op ≠ .defer c) (hw : C w) (h : ∀ a w', C w' → K a → K' a w')
    (ha : o.askedIn F P a C) (hh : o.quietIn F n P a C K) : o.wpIn F n P a w K' Q' := by
  obtain ⟨v, h1, h2⟩ := hh
  have h3 := h1 w hw
  unfold Oper.quietAtIn at h3
  unfold Oper.wpIn
  refine ⟨ha w hw, ?_⟩
  rw [Oper.semAt_plain F _ _ hd]
  generalize (execOp a.eval o).run P w = r at *
  cases r with
  | halt x w' => simp only [Oper.quietUponIn] at h3
  | ok x w' =>
    cases x <;> simp only [Oper.quietUponIn] at h3 <;> simp only [Oper.uponIn]
    case value u => rw [h3.1, h3.2]; exact h _ _ hw h2
    case skip => rw [h3.1, ← h3.2]; exact h _ _ hw h2
    case enter f args =>
      rw [h3.1]
      exact ⟨h3.2.1, h3.2.2.mono fun e w'' he => by rw [he.1]; exact h _ _ he.2 h2⟩
theorem op_in_of_quiet {i : Nat} {a : Act} {K : Act → Prop} {K' : Act → World → Prop} {Q' : Exit → Act → World → Prop} {w : World} (hd : ∀ (i : Nat) (o : Oper), ops[i]? = some o → ∀ c, o.op ≠ .defer c) (hC : C w) (h : ∀ a w', C w' → K a → K' a w')
    (hh : qOpIn F n P ops C i K a) : wpOpIn F n P ops Q' i K' a w := by
  unfold qOpIn at hh
  unfold wpOpIn
  cases ho : ops[i]? with
  | none => simp only [ho] at hh ⊢; exact h _ _ hC hh
  | some o =>
    simp only [ho] at hh ⊢
    by_cases hw : Region.wanted o (yielded ops a.tmps) = true
    · simp only [hw, if_true] at hh ⊢; exact oper_in_of_quiet (hd i o ho) hC h hh.1 hh.2
    · simp only [hw] at hh ⊢; exact ⟨hh.1 w hC, h _ _ hC hh.2⟩
theorem any_in_of_quiet {Q : Act → Prop} {Q' : Exit → Act → World → Prop} (hd : ∀ (i : Nat) (o : Oper), ops[i]? = some o → ∀ c, o.op ≠ .defer c) (hQ : ∀ a w, C w → Q a → Q' .normal a w) : ∀ (fuel : Nat) (listed : Array Bool) (a : Act) (w : World), C w →
    wpAnyQIn F n P md ops C Q fuel listed a → wpAnyIn F n P md ops Q' fuel listed a w
  | 0, _, _, _, hw, h => ⟨h.1, hQ _ _ hw h.2⟩
  | fuel + 1, _, _, _, hw, h => ⟨fun h0 => hQ _ _ hw (h.1 h0), fun i hi => op_in_of_quiet hd hw (fun a' w' hw' => any_in_of_quiet hd hQ fuel _ a' w' hw') (h.2 i hi)⟩
theorem wpIn_region_quiet_below {id : Nat} {Q : Exit → Act → World → Prop} {a : Act} {V : World} {l : List Oper} (hd : noDefer l = true) (hm : P.follows .mixedOrders = true) (hB : Region.lexB .any l.toArray = true)
    (h : wpQuietIn F n P l.toArray (fun w' => ∃ q : ExtB V.heap.size V, w' = q.w) (fun a' => ∀ w', (∃ q : ExtB V.heap.size V, w' = q.w) → Q .normal a' w') l a) : (Code.region id l.toArray true).wpIn F n P Q a V := by
  simp only [Region.lexB, Bool.and_eq_true] at hB
  refine wpIn_region_any hm (any_in_of_quiet (C := fun w' => ∃ q : ExtB V.heap.size V, w' = q.w) (Q := fun a' => ∀ w', (∃ q : ExtB V.heap.size V, w' = q.w) → Q .normal a' w') (fun i o ho => noDefer_at hd (by simpa using ho)) (fun _ w' hw' h => h w' hw') _ _ _ _ ⟨⟨V.drew, (Below.refl _ V).drew⟩, rfl⟩ ?_)
  have := wpAnyQIn_lex (F := F) (n := n) (C := fun w' => ∃ q : ExtB V.heap.size V, w' = q.w) (md := .any) hB.1 l 0 (Array.replicate l.toArray.size false) a (by simp) (by simpa using hB.2) h
  simpa using this
theorem callsIn_ext {f : FuncId} {args : Array Value} {B : Nat} {V : World} {v : Value} (hB : B ≤ V.heap.size) (q : ExtB B V) (h : CallsIn F n P f args q.w fun e w' => e = .returned v ∧ Below q.w.heap.size q.w w') : CallsIn F n P f args q.w fun e w'' => e = .returned v ∧ ∃ q' : ExtB B V, w'' = q'.w :=
  h.mono fun _ w' ⟨he, hb⟩ => ⟨he, ⟨w', q.below.trans (hb.mono (Nat.le_trans hB q.below.size))⟩, rfl⟩
theorem callsIn_ext_same {f : FuncId} {args : Array Value} {B : Nat} {V : World} {v : Value} (q : ExtB B V) (h : CallsIn F n P f args q.w fun e w' => e = .returned v ∧ q.w = w') : CallsIn F n P f args q.w fun e w'' => e = .returned v ∧ ∃ q' : ExtB B V, w'' = q'.w :=
  h.mono fun _ _ ⟨he, hw⟩ => ⟨he, q, hw.symm⟩
end
end Go.LawEnd

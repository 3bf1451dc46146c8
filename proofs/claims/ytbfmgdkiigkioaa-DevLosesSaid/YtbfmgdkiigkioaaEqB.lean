/- '!=' of sectors and of writes. -/
import Derived.Test.YtbfmgdkiigkioaaCrash
namespace Go.Proofs.Ytbfmgdkiigkioaa
open Go.RowKit Go.LawEnd

theorem bytes_mark {k : Int} (hk : 0 ≤ k ∧ k < 256) : markC k = ((k.toNat.toUInt8 :: List.replicate 63 (0 : UInt8)).map Extern.Stop.cell) := by
  rw [markC_eq, List.map_cons, List.map_replicate]
  have e : Extern.Stop.cell k.toNat.toUInt8 = .int .u8 k := by
    unfold Extern.Stop.cell
    have : k.toNat.toUInt8.toNat = k.toNat := by simp; omega
    rw [this]
    exact congrArg (Value.int .u8) (Int.toNat_of_nonneg hk.1)
  rw [e]
  rfl
theorem bytes_eq {i j : Int} (hi : 0 ≤ i ∧ i < 256) (hj : 0 ≤ j ∧ j < 256) : ((i.toNat.toUInt8 :: List.replicate 63 (0 : UInt8)) == (j.toNat.toUInt8 :: List.replicate 63 (0 : UInt8))) = decide (i = j) := by
  rw [Bool.eq_iff_iff, beq_iff_eq, decide_eq_true_eq]
  constructor
  · intro h
    injection h with h _
    have := congrArg UInt8.toNat h
    simp at this
    omega
  · rintro rfl; rfl
theorem equalIn_block (n : Nat) {i j : Int} (hi : 0 ≤ i ∧ i < 256) (hj : 0 ≤ j ∧ j < 256) (w : World) : (Op.equalIn (n + 2) 34 (.agg (markC i).toArray) (.agg (markC j).toArray)).run Try.prog w = .ok (decide (i = j)) w := by
  have h := run_equalIn_bytes (P := Try.prog) w n 34 5 64 Try.underlying34 Try.underlying5 (fun w => Try.sizeOf5 w) (i.toNat.toUInt8 :: List.replicate 63 (0 : UInt8)) (j.toNat.toUInt8 :: List.replicate 63 (0 : UInt8)) (by simp) (by simp)
  rw [← bytes_mark hi, ← bytes_mark hj, bytes_eq hi hj] at h
  exact h
theorem neq_block {i j : Int} (hi : 0 ≤ i ∧ i < 256) (hj : 0 ≤ j ∧ j < 256) (w : World) : (binOp BinOp.neq 34 (.agg (markC i).toArray) (.agg (markC j).toArray)).run Try.prog w = .ok (.bool (!decide (i = j))) w := by
  rw [run_neq_struct, show (10000 : Nat) = 9998 + 2 from rfl, equalIn_block 9998 hi hj]
  rfl
theorem neq_wr {p q : Wr} (hi : 0 ≤ p.2 ∧ p.2 < 256) (hj : 0 ≤ q.2 ∧ q.2 < 256) (w : World) : (binOp BinOp.neq 66 (.agg (wrC p).toArray) (.agg (wrC q).toArray)).run Try.prog w = .ok (.bool (!decide (p = q))) w := by
  rw [run_neq_struct, show (10000 : Nat) = 9999 + 1 from rfl, run_equalIn_struct w 9999 _ _ _ (by kernel_rfl) (by kernel_rfl)]
  have hp : wrC p = .int .i64 p.1 :: markC p.2 := rfl
  have hq : wrC q = .int .i64 q.1 :: markC q.2 := rfl
  have ht : ∀ k, List.take 64 (markC k) = markC k := fun k => List.take_of_length_le (by rw [markC_length]; exact Nat.le_refl _)
  have hb := fun w => equalIn_block 9997 hi hj w
  rw [hp, hq]
  go_simp
  by_cases h1 : p.1 = q.1 <;> by_cases h2 : p.2 = q.2 <;> simp [h1, h2, Prod.ext_iff]
theorem flat_len {α : Type} (c : α → List Value) (sz : Nat) (hc : ∀ x, (c x).length = sz) (l : List α) : (l.flatMap c).length = l.length * sz := by
  induction l with
  | nil => simp
  | cons y l ih => rw [List.flatMap_cons, List.length_append, ih, hc, List.length_cons, Nat.add_mul]; omega
/-- a row's element lies where the slice says -/
theorem flat_range {α : Type} (c : α → List Value) (sz : Nat) (hc : ∀ x, (c x).length = sz) {w : World} {A : Option Addr} {cp n : Nat} {e : TypeId} {l : List α} (hr : w.ownsRow 0 e sz (.slice A n cp) l.length (l.flatMap c)) (k : Nat) (hk : k < l.length) :
    ∃ g, A = some ⟨g, 0, none⟩ ∧ w.rangeAt g (k * sz) (c l[k]) := by
  rcases hr.2 with ⟨_, h0⟩ | ⟨g, cap, cur, e, _, hh, _⟩
  · omega
  · cases e
    refine ⟨g, rfl, fun j v hv => ?_⟩
    have hj : j < sz := by have := (List.getElem?_eq_some_iff.1 hv).1; rw [hc] at this; exact this
    have hget := flat_get c sz hc l k hk j hj
    rw [hr.cellAt _ (by
      have h1 : (k + 1) * sz ≤ l.length * sz := Nat.mul_le_mul_right _ hk
      have h2 := flat_len c sz hc l
      have h3 := hr.1
      rw [Nat.add_mul] at h1
      omega)]
    exact hget.trans hv
theorem row_below {w W : World} {e : TypeId} {size n : Nat} {v : Value} {xs : List Value} (h : w.ownsRow 0 e size v n xs) (hb : Below w.heap.size w W) : W.ownsRow 0 e size v n xs :=
  row_keep h fun b hb' => hb.block b (h.lt b hb').2
end Go.Proofs.Ytbfmgdkiigkioaa

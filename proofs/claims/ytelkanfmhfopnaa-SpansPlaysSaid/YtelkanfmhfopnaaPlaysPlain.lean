/- Plain laws of SpansPlays: the document's set and the program's, call by call. -/
import Derived.Test.YtelkanfmhfopnaaRefSp
import Derived.Test.YtelkanfmhfopnaaOps
namespace Go.Proofs.Ytelkanfmhfopnaa
open Go.LawEnd

theorem total_putF (l : List Sp) (x : Sp) : total (putF l x) = total l + x.2 := by
  rcases List.eq_nil_or_concat l with rfl | ⟨l', y, rfl⟩
  · rw [putF_nil]
    split
    · rename_i h; rw [h]; rfl
    · simp [total]
  · rw [List.concat_eq_append, putF_last]
    split
    · rename_i h; omega
    · split
      · rw [total_append, total_append]; simp [total]; omega
      · rw [total_append, total_append]; simp [total]
theorem putF_len (l : List Sp) (x : Sp) : (putF l x).length ≤ l.length + 1 := by
  rcases List.eq_nil_or_concat l with rfl | ⟨l', y, rfl⟩
  · rw [putF_nil]; split <;> simp
  · rw [List.concat_eq_append, putF_last]
    split
    · simp
    · split <;> simp
theorem spF_total (f : Int → Bool) : ∀ k : Nat, total (spF f k) = cnt f k
  | 0 => rfl
  | k + 1 => by
    unfold spF cnt
    by_cases h : f k = true
    · rw [if_pos h, if_pos h, total_putF, spF_total f k]
    · rw [if_neg h, if_neg h, spF_total f k]; omega
theorem spF_small (f : Int → Bool) : ∀ k : Nat, (spF f k).length ≤ k
  | 0 => Nat.le_refl _
  | k + 1 => by
    have := spF_small f k
    unfold spF
    split
    · have := putF_len (spF f k) ((k : Int), 1); omega
    · omega
def refF (f : Int → Bool) (o : Cl) : Int → Bool := if mayB o.2 = true then turnF f o.2 (!o.1) 200 else f
theorem do_ref {f : Int → Bool} {o : Cl} (h : SmallP o) : doF (spF f 200) o = spF (refF f o) 200 := by
  unfold doF refF
  by_cases hm : mayB o.2 = true
  · rw [if_pos hm, if_pos hm]
    have hM := (mayB_iff _).1 hm
    have h2 := h hm
    obtain ⟨h1, hmem, _⟩ := spF_ok f 200 (Nat.le_refl _)
    obtain ⟨q1, qmem, _⟩ := spF_ok (turnF f o.2 (!o.1) 200) 200 (Nat.le_refl _)
    obtain ⟨c, x⟩ := o
    simp only [] at hM h2 ⊢
    have hin : ∀ n, inn x n → 0 ≤ n ∧ n < 200 := fun n hn => by have := hM.1; unfold inn at hn; omega
    cases c
    · rw [if_neg (by simp)]
      refine ok_eq (add_ok h1 hM).1 q1 fun n => ?_
      rw [(add_ok h1 hM).2, hmem, qmem]
      unfold turnF
      by_cases hi : inn x n
      · have := hin n hi
        rw [if_pos ⟨innB_iff.2 hi, by omega⟩]
        exact ⟨fun _ => ⟨by omega, rfl⟩, fun _ => .inr hi⟩
      · rw [if_neg (fun h => hi (innB_iff.1 h.1))]
        exact ⟨fun h => h.resolve_right hi, .inl⟩
    · rw [if_pos rfl]
      refine ok_eq (cut_ok h1 hM).1 q1 fun n => ?_
      rw [(cut_ok h1 hM).2, hmem, qmem]
      unfold turnF
      by_cases hi : inn x n
      · have := hin n hi
        rw [if_pos ⟨innB_iff.2 hi, by omega⟩]
        exact ⟨fun h => absurd hi h.2, fun h => by cases h.2⟩
      · rw [if_neg (fun h => hi (innB_iff.1 h.1))]
        exact ⟨fun h => h.1, fun h => ⟨h, hi⟩⟩
  · rw [if_neg hm, if_neg hm]
theorem spF_none : spF (fun _ => false) 200 = [] := by
  have : ∀ k : Nat, spF (fun _ => false) k = [] := fun k => by
    induction k with
    | zero => rfl
    | succ k ih => unfold spF; rw [if_neg (by simp), ih]
  exact this 200
theorem spF_has (f : Int → Bool) (n : Int) : memB (spF f 200) n = (decide (0 ≤ n) && decide (n < 200) && f n) := by
  rw [Bool.eq_iff_iff, memB_iff, (spF_ok f 200 (Nat.le_refl _)).2.1]
  simp only [Bool.and_eq_true, decide_eq_true_eq]
  exact Iff.rfl
/-- is one of the next k numbers in? -/
def anyF (f : Int → Bool) (a : Int) (k : Nat) : Bool := (List.range k).any fun i => f (a + (i : Int))
theorem anyF_succ (f : Int → Bool) (a : Int) (k : Nat) : anyF f a (k + 1) = (anyF f a k || f (a + (k : Int))) := by
  unfold anyF
  rw [List.range_succ, List.any_append]
  simp
theorem anyF_meets {f : Int → Bool} {x : Sp} (hx : May x) {k : Nat} (h1 : (k : Int) ≤ x.2) (h2 : x.1 + k ≤ 200 ∨ k = 0) (h3 : (k : Int) = x.2 ∨ 200 ≤ x.1 + k) : meetsF (spF f 200) x = anyF f x.1 k := by
  obtain ⟨q1, qmem, _⟩ := spF_ok f 200 (Nat.le_refl _)
  rw [Bool.eq_iff_iff, meets_iff q1 hx]
  unfold anyF
  rw [List.any_eq_true]
  have h0 := hx.1
  constructor
  · rintro ⟨i, hi, hm⟩
    rw [memB_iff, qmem] at hm
    refine ⟨i, List.mem_range.2 ?_, hm.2⟩
    omega
  · rintro ⟨i, hi, hf⟩
    have hi := List.mem_range.1 hi
    refine ⟨i, by omega, ?_⟩
    rw [memB_iff, qmem]
    exact ⟨by omega, hf⟩
end Go.Proofs.Ytelkanfmhfopnaa

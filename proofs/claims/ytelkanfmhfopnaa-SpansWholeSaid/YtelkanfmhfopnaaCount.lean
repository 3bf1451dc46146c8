/- Plain laws: how many numbers a set has. -/
import Derived.Test.YtelkanfmhfopnaaPlain
import Derived.Test.YtelkanfmhfopnaaLen
import Derived.Test.YtelkanfmhfopnaaMeets
namespace Go.Proofs.Ytelkanfmhfopnaa
open Go.LawEnd

/-- how many numbers below m there are -/
def cnt (p : Int → Bool) : Nat → Int
  | 0 => 0
  | m + 1 => cnt p m + (if p m = true then 1 else 0)
theorem cnt_congr {p q : Int → Bool} : ∀ {m : Nat}, (∀ n : Int, 0 ≤ n → n < m → p n = q n) → cnt p m = cnt q m
  | 0, _ => rfl
  | m + 1, h => by
    unfold cnt
    rw [cnt_congr (m := m) fun n h0 h1 => h n h0 (by omega), h m (by omega) (by omega)]
theorem cnt_split (p q : Int → Bool) : ∀ m : Nat, cnt p m = cnt (fun n => p n && q n) m + cnt (fun n => p n && !q n) m
  | 0 => rfl
  | m + 1 => by
    unfold cnt
    rw [cnt_split p q m]
    cases p m <;> cases q m <;> simp <;> omega
theorem cnt_none {p : Int → Bool} : ∀ {m : Nat}, (∀ n : Int, 0 ≤ n → n < m → p n = false) → cnt p m = 0
  | 0, _ => rfl
  | m + 1, h => by
    unfold cnt
    rw [cnt_none (m := m) fun n h0 h1 => h n h0 (by omega), h m (by omega) (by omega)]
    rfl
def innB (x : Sp) (n : Int) : Bool := decide (x.1 ≤ n) && decide (n < en x)
def memB (l : List Sp) (n : Int) : Bool := l.any fun y => innB y n
theorem innB_iff {x : Sp} {n : Int} : innB x n = true ↔ inn x n := by unfold innB inn; simp
theorem memB_iff {l : List Sp} {n : Int} : memB l n = true ↔ mem l n := by
  unfold memB mem
  rw [List.any_eq_true]
  exact ⟨fun ⟨y, h1, h2⟩ => ⟨y, h1, innB_iff.1 h2⟩, fun ⟨y, h1, h2⟩ => ⟨y, h1, innB_iff.2 h2⟩⟩
theorem memB_eq {l l' : List Sp} {n : Int} (h : mem l n ↔ mem l' n) : memB l n = memB l' n := by
  rw [Bool.eq_iff_iff, memB_iff, memB_iff]; exact h
/-- the numbers of a span, by how far they are in -/
theorem cnt_shift (p : Int → Bool) (a : Nat) : ∀ (k M : Nat), a + k ≤ M → cnt (fun n => innB ((a : Int), (k : Int)) n && p n) M = cnt (fun i => p (a + i)) k := by
  intro k
  induction k with
  | zero =>
    intro M _
    refine (cnt_none fun n _ _ => ?_).trans rfl
    have : innB ((a : Int), ((0 : Nat) : Int)) n = false := by
      cases h : innB ((a : Int), ((0 : Nat) : Int)) n
      · rfl
      · have := innB_iff.1 h; unfold inn en at this; simp only [] at this; omega
    rw [this]; rfl
  | succ k ih =>
    intro M hM
    rw [cnt_split _ (fun n => innB ((a : Int), (k : Int)) n) M]
    have e1 : cnt (fun n => (innB ((a : Int), ((k + 1 : Nat) : Int)) n && p n) && innB ((a : Int), (k : Int)) n) M = cnt (fun n => innB ((a : Int), (k : Int)) n && p n) M := cnt_congr fun n _ _ => by
      rw [Bool.eq_iff_iff]
      simp only [Bool.and_eq_true, innB_iff]
      unfold inn en
      simp only []
      constructor
      · rintro ⟨⟨_, h1⟩, h2⟩; exact ⟨h2, h1⟩
      · rintro ⟨h1, h2⟩; exact ⟨⟨by omega, h2⟩, h1⟩
    rw [e1, ih M (by omega)]
    have e2 : ∀ m : Nat, cnt (fun n => (innB ((a : Int), ((k + 1 : Nat) : Int)) n && p n) && !innB ((a : Int), (k : Int)) n) m = if a + k < m then (if p (a + k) = true then 1 else 0) else 0 := by
      intro m
      induction m with
      | zero => simp [cnt]
      | succ m ihm =>
        unfold cnt
        rw [ihm]
        have hb : (innB ((a : Int), ((k + 1 : Nat) : Int)) m && p m && !innB ((a : Int), (k : Int)) m) = (decide (m = a + k) && p m) := by
          rw [Bool.eq_iff_iff]
          simp only [Bool.and_eq_true, innB_iff, Bool.not_eq_true', decide_eq_true_eq]
          rw [show (innB ((a : Int), (k : Int)) m = false) ↔ ¬ inn ((a : Int), (k : Int)) m by rw [← innB_iff]; simp]
          unfold inn en
          simp only []
          constructor
          · rintro ⟨⟨h1, h2⟩, h3⟩; exact ⟨by omega, h2⟩
          · rintro ⟨h1, h2⟩; exact ⟨⟨by omega, h2⟩, by omega⟩
        rw [hb]
        by_cases h1 : m = a + k
        · subst h1
          simp
        · by_cases h2 : a + k < m
          · have h3 : a + k < m + 1 := by omega
            simp [h1, h2, h3]
          · have h3 : ¬ a + k < m + 1 := by omega
            simp [h1, h2, h3]
    rw [e2 M, if_pos (by omega)]
    rfl
end Go.Proofs.Ytelkanfmhfopnaa

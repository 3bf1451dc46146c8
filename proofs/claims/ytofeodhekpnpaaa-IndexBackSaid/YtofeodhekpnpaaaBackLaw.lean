/- The plain law of IndexBack. -/
import Derived.Test.YtofeodhekpnpaaaFull
namespace Go.Proofs.Ytofeodhekpnpaaa
open Go.RowKit Go.LawEnd

theorem putF_err {slots : Nat} {l : Pls} {f : Ats} {i s : Int} {d : Bool} (h : (putF slots l f i s d).1.2.2 ≠ 0) : (putF slots l f i s d).2.1 = l := by
  unfold putF at h ⊢
  by_cases h1 : i < 0 ∨ (l.length : Int) ≤ i
  · rw [if_pos h1]
  · rw [if_neg h1] at h ⊢
    by_cases h2 : s < 0 ∨ (slots : Int) ≤ s
    · rw [if_pos h2]
    · rw [if_neg h2] at h ⊢
      by_cases h3 : (f s).any (· != i) = true
      · rw [if_pos h3]
      · rw [if_neg h3] at h; exact absurd rfl h
/-- what is known behind a Put that went -/
theorem putF_went {slots : Nat} {l : Pls} {f : Ats} {i s : Int} {d : Bool} (h : (putF slots l f i s d).1.2.2 = 0) :
    ∃ j : Nat, i = j ∧ j < l.length ∧ 0 ≤ s ∧ s < slots ∧ putF slots l f i s d = (((pl l i).1, (pl l i).2, 0), l.set j (s, d), upd (era f (pl l i).1) s i) := by
  unfold putF at h ⊢
  by_cases h1 : i < 0 ∨ (l.length : Int) ≤ i
  · rw [if_pos h1] at h; exact absurd h (fun e => by cases e)
  · rw [if_neg h1] at h ⊢
    by_cases h2 : s < 0 ∨ (slots : Int) ≤ s
    · rw [if_pos h2] at h; exact absurd h (fun e => by cases e)
    · rw [if_neg h2] at h ⊢
      by_cases h3 : (f s).any (· != i) = true
      · rw [if_pos h3] at h; exact absurd h (fun e => by cases e)
      · rw [if_neg h3]
        exact ⟨i.toNat, by omega, by omega, by omega, by omega, rfl⟩
section
variable {slots : Nat} {l : Pls} {f : Ats} {i s : Int} {d : Bool}
theorem pl_set {j : Nat} (hj : j < l.length) (p : Int × Bool) : pl (l.set j p) (j : Int) = p := by simp [pl, hj]
theorem put_get (h : (putF slots l f i s d).1.2.2 = 0) : getF (putF slots l f i s d).2.1 i = (s, d, 0) := by
  obtain ⟨j, rfl, hj, h0, h1, e⟩ := putF_went h
  rw [e]
  unfold getF
  rw [List.length_set, if_neg (by omega), pl_set hj, if_neg (fun e => by injection e with e _; omega)]
theorem put_drop (hF : Fit slots l) (h : (putF slots l f i s d).1.2.2 = 0) (ho : (putF slots l f i s d).1.1 = -1) :
    (dropF (putF slots l f i s d).2.1 (putF slots l f i s d).2.2 i).1.2.2 = 0 ∧ (dropF (putF slots l f i s d).2.1 (putF slots l f i s d).2.2 i).2.1 = l := by
  obtain ⟨j, rfl, hj, h0, h1, e⟩ := putF_went h
  rw [e] at ho ⊢
  have hp := pl_at hj
  have hl : l[j] = (-1, false) := by
    rcases hF l[j] (List.getElem_mem hj) with a | a
    · exact a
    · rw [hp] at ho; simp at ho; omega
  unfold dropF
  simp only []
  rw [List.length_set, if_neg (by omega), pl_set hj, if_neg (fun e => by injection e with e _; omega)]
  refine ⟨rfl, ?_⟩
  simp only [Int.toNat_natCast, List.set_set]
  rw [← hl, List.set_getElem_self]
theorem put_put (hF : Fit slots l) (h : (putF slots l f i s d).1.2.2 = 0) (ho : (putF slots l f i s d).1.1 ≠ -1) :
    (putF slots (putF slots l f i s d).2.1 (putF slots l f i s d).2.2 i (putF slots l f i s d).1.1 (putF slots l f i s d).1.2.1).1.2.2 = 0 ∧
    (putF slots (putF slots l f i s d).2.1 (putF slots l f i s d).2.2 i (putF slots l f i s d).1.1 (putF slots l f i s d).1.2.1).2.1 = l := by
  obtain ⟨j, rfl, hj, h0, h1, e⟩ := putF_went h
  rw [e] at ho ⊢
  have hp := pl_at hj
  have hl : 0 ≤ l[j].1 ∧ l[j].1 < slots := by
    rcases hF l[j] (List.getElem_mem hj) with a | a
    · rw [hp, a] at ho; exact absurd rfl ho
    · exact a
  simp only [hp]
  have hany : ¬ (upd (era f l[j].1) s (j : Int) l[j].1).any (· != (j : Int)) = true := by
    unfold upd era
    by_cases hs : l[j].1 = s
    · rw [if_pos hs]; simp
    · rw [if_neg hs, if_pos rfl]; simp
  unfold putF
  rw [List.length_set, if_neg (by omega), if_neg (by omega), if_neg hany]
  refine ⟨rfl, ?_⟩
  simp only [Int.toNat_natCast, List.set_set]
  exact List.set_getElem_self ..
end
end Go.Proofs.Ytofeodhekpnpaaa

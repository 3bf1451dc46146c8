/- Plain laws of SpansWhole. -/
import Derived.Test.YtelkanfmhfopnaaNums3
import Derived.Test.YtelkanfmhfopnaaTotal
namespace Go.Proofs.Ytelkanfmhfopnaa
open Go.LawEnd

theorem nums_length : ∀ {l : List Sp}, OkS l → ((nums l).length : Int) = total l
  | [], _ => rfl
  | y :: l, h => by
    have ih := nums_length h.tail
    have hv := h.val y (List.mem_cons_self ..)
    rw [total_cons, ← ih]
    have : nums (y :: l) = numsOf y y.2.toNat ++ nums l := by simp [nums]
    rw [this, List.length_append]
    have hl : (numsOf y y.2.toNat).length = y.2.toNat := by simp [numsOf]
    rw [hl]
    omega
theorem nums_mem {l : List Sp} {n : Int} (h : n ∈ nums l) : mem l n := by
  obtain ⟨y, hy, hn⟩ := List.mem_flatMap.1 h
  unfold numsOf at hn
  obtain ⟨i, hi, rfl⟩ := List.mem_map.1 hn
  have := List.mem_range.1 hi
  exact ⟨y, hy, by unfold inn en; omega⟩
theorem total_new {l : List Sp} (h : ∀ x ∈ l, May x) : total (newF l) ≤ total l := by
  have key : ∀ (b a : List Sp), (∀ x ∈ b, May x) → OkS a → total (b.foldl addF a) ≤ total a + total b := by
    intro b
    induction b with
    | nil => intro a _ _; simp [total]
    | cons x b ih =>
      intro a hb ha
      have hx := hb x (List.mem_cons_self ..)
      rw [List.foldl_cons, total_cons]
      have h1 := ih (addF a x) (fun y hy => hb y (List.mem_cons_of_mem _ hy)) (add_ok ha hx).1
      have h2 := total_add ha hx
      have h3 := cnt_range (p := fun i => memB a (x.1 + i)) (m := x.2.toNat)
      unfold insideN at h2
      omega
  have := key l [] h OkS.nil
  unfold newF
  have e : total ([] : List Sp) = 0 := rfl
  omega
theorem total_le {l : List Sp} (h : ∀ x ∈ l, x.2 ≤ 60) : total l ≤ 60 * l.length := by
  induction l with
  | nil => simp [total]
  | cons x l ih =>
    have h1 := h x (List.mem_cons_self ..)
    have h2 := ih fun y hy => h y (List.mem_cons_of_mem _ hy)
    rw [total_cons, List.length_cons]
    omega
theorem one_le_total {l : List Sp} (h : OkS l) {y : Sp} (hy : y ∈ l) : y.2 ≤ total l := by
  induction l with
  | nil => cases hy
  | cons x l ih =>
    rw [total_cons]
    have h0 := oks_total h.tail
    rcases List.mem_cons.1 hy with rfl | hy
    · omega
    · have := ih h.tail hy
      have := (h.val x (List.mem_cons_self ..)).2.1
      omega
/-- a span that was put in is in, from its first number to its last -/
theorem new_has {l : List Sp} (h : ∀ x ∈ l, May x) {y : Sp} (hy : y ∈ l) (h1 : 0 < y.2) : memB (newF l) y.1 = true ∧ memB (newF l) (y.1 + y.2 - 1) = true := by
  rw [memB_iff, memB_iff, (newF_ok h).2, (newF_ok h).2]
  exact ⟨⟨y, hy, by unfold inn en; omega⟩, ⟨y, hy, by unfold inn en; omega⟩⟩
/-- where spans end -/
def lastEnd (l : List Sp) : Int := (l.getLast?.map en).getD (-1)
theorem lastEnd_snoc (l : List Sp) (y : Sp) : lastEnd (l ++ [y]) = en y := by simp [lastEnd]
theorem lastEnd_lt {l : List Sp} (h : OkS l) {k : Nat} (hk : k < l.length) : lastEnd (l.take k) < l[k].1 := by
  cases k with
  | zero => have := (h.val l[0] (List.getElem_mem hk)).1; simp [lastEnd]; omega
  | succ k =>
    rw [List.take_succ_eq_append_getElem (by omega), lastEnd_snoc]
    exact (List.pairwise_iff_getElem.1 h.apart) k (k + 1) (by omega) hk (by omega)
theorem lastEnd_range {l : List Sp} (h : OkS l) : -1 ≤ lastEnd l ∧ lastEnd l ≤ 1048576 := by
  rcases List.eq_nil_or_concat l with rfl | ⟨l', y, rfl⟩
  · simp [lastEnd]
  · rw [List.concat_eq_append] at h ⊢
    rw [lastEnd_snoc]
    have := h.val y (by simp)
    unfold en at *
    omega
end Go.Proofs.Ytelkanfmhfopnaa

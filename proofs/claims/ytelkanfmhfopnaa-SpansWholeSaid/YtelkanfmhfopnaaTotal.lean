/- Plain laws: how many numbers a set has, with a span and without it. -/
import Derived.Test.YtelkanfmhfopnaaCount
namespace Go.Proofs.Ytelkanfmhfopnaa
open Go.LawEnd

theorem cnt_pos {p : Int → Bool} : ∀ {m : Nat}, 0 < cnt p m ↔ ∃ i : Nat, i < m ∧ p i = true
  | 0 => by unfold cnt; simp
  | m + 1 => by
    have ih := cnt_pos (p := p) (m := m)
    have h0 : 0 ≤ cnt p m := by
      clear ih
      induction m with
      | zero => exact Int.le_refl _
      | succ m ih => unfold cnt; split <;> omega
    unfold cnt
    by_cases hp : p m = true
    · rw [if_pos hp]
      exact ⟨fun _ => ⟨m, by omega, hp⟩, fun _ => by omega⟩
    · rw [if_neg hp]
      constructor
      · intro h
        obtain ⟨i, hi, h1⟩ := ih.1 (by omega)
        exact ⟨i, by omega, h1⟩
      · rintro ⟨i, hi, h1⟩
        have : i ≠ m := by rintro rfl; exact hp h1
        have := ih.2 ⟨i, by omega, h1⟩
        omega
theorem cnt_range {p : Int → Bool} : ∀ {m : Nat}, 0 ≤ cnt p m ∧ cnt p m ≤ m
  | 0 => by unfold cnt; simp
  | m + 1 => by
    have ih := cnt_range (p := p) (m := m)
    unfold cnt
    split <;> omega
theorem cnt_all {p : Int → Bool} : ∀ {m : Nat}, (∀ i : Nat, i < m → p i = true) → cnt p m = m
  | 0, _ => rfl
  | m + 1, h => by
    unfold cnt
    rw [cnt_all (m := m) fun i hi => h i (by omega), h m (by omega)]
    simp
/-- the numbers of a span that are in -/
def insideN (S : List Sp) (x : Sp) : Int := cnt (fun i => memB S (x.1 + i)) x.2.toNat
theorem cnt_span {x : Sp} (h : May x) (p : Int → Bool) : cnt (fun n => innB x n && p n) 1048576 = cnt (fun i => p (x.1 + i)) x.2.toNat := by
  obtain ⟨a, b⟩ := x
  obtain ⟨h0, h1, h2⟩ := h
  unfold en at h2
  simp only [] at h0 h1 h2 ⊢
  obtain ⟨a', rfl⟩ := Int.eq_ofNat_of_zero_le h0
  obtain ⟨b', rfl⟩ := Int.eq_ofNat_of_zero_le h1
  exact cnt_shift p a' b' 1048576 (by omega)
theorem cnt_own {x : Sp} (h : May x) : cnt (innB x) 1048576 = x.2 := by
  have h1 := cnt_span h (fun _ => true)
  simp only [Bool.and_true] at h1
  rw [h1, cnt_all fun _ _ => rfl]
  have := h.2.1
  omega
theorem oks_may {l : List Sp} (h : OkS l) {y : Sp} (hy : y ∈ l) : May y := by
  have := h.val y hy
  exact ⟨this.1, by omega, this.2.2⟩
theorem total_cnt : ∀ {l : List Sp}, OkS l → total l = cnt (memB l) 1048576
  | [], _ => (cnt_none fun _ _ _ => rfl).symm
  | y :: l, h => by
    rw [total_cons, total_cnt h.tail, cnt_split (memB (y :: l)) (innB y), ← cnt_own (oks_may h (List.mem_cons_self ..))]
    have e1 : cnt (innB y) 1048576 = cnt (fun n => memB (y :: l) n && innB y n) 1048576 := cnt_congr fun n _ _ => by
      rw [Bool.eq_iff_iff, Bool.and_eq_true, memB_iff, mem_cons, innB_iff]
      exact ⟨fun h => ⟨.inl h, h⟩, fun h => h.2⟩
    have e2 : cnt (memB l) 1048576 = cnt (fun n => memB (y :: l) n && !innB y n) 1048576 := cnt_congr fun n _ _ => by
      rw [Bool.eq_iff_iff, Bool.and_eq_true, memB_iff, memB_iff, mem_cons]
      rw [show (!innB y n) = true ↔ ¬ inn y n by rw [← innB_iff]; simp]
      constructor
      · rintro ⟨z, hz, h1, h2⟩
        have := (List.pairwise_cons.1 h.apart).1 z hz
        exact ⟨.inr ⟨z, hz, h1, h2⟩, by unfold inn; omega⟩
      · rintro ⟨h1 | h1, h2⟩
        · exact absurd h1 h2
        · exact h1
    rw [← e1, ← e2]
theorem inside_cnt {S : List Sp} {x : Sp} (hx : May x) : cnt (fun n => memB S n && innB x n) 1048576 = insideN S x := by
  unfold insideN
  rw [← cnt_span hx (memB S)]
  exact cnt_congr fun n _ _ => Bool.and_comm ..
theorem outside_cnt {S : List Sp} {x : Sp} (hS : OkS S) (hx : May x) : cnt (fun n => memB S n && !innB x n) 1048576 = total S - insideN S x := by
  have h1 := cnt_split (memB S) (innB x) 1048576
  rw [← total_cnt hS, inside_cnt hx] at h1
  omega
theorem total_out {S S' : List Sp} {x : Sp} (hS : OkS S) (hx : May x) (hS' : OkS S') (hm : ∀ n, mem S' n ↔ mem S n ∧ ¬ inn x n) : total S' = total S - insideN S x := by
  rw [total_cnt hS', ← outside_cnt hS hx]
  exact cnt_congr fun n _ _ => by
    rw [Bool.eq_iff_iff, Bool.and_eq_true, memB_iff, memB_iff, hm]
    rw [show (!innB x n) = true ↔ ¬ inn x n by rw [← innB_iff]; simp]
theorem total_cut {S : List Sp} {x : Sp} (hS : OkS S) (hx : May x) : total (cutF S x) = total S - insideN S x :=
  total_out hS hx (cut_ok hS hx).1 (cut_ok hS hx).2
theorem total_add {S : List Sp} {x : Sp} (hS : OkS S) (hx : May x) : total (addF S x) = total S + x.2 - insideN S x := by
  obtain ⟨h1, h2⟩ := add_ok hS hx
  rw [total_cnt h1, cnt_split (memB (addF S x)) (innB x)]
  have e1 : cnt (fun n => memB (addF S x) n && innB x n) 1048576 = cnt (innB x) 1048576 := cnt_congr fun n _ _ => by
    rw [Bool.eq_iff_iff, Bool.and_eq_true, memB_iff, h2, innB_iff]
    exact ⟨fun h => h.2, fun h => ⟨.inr h, h⟩⟩
  have e2 : cnt (fun n => memB (addF S x) n && !innB x n) 1048576 = cnt (fun n => memB S n && !innB x n) 1048576 := cnt_congr fun n _ _ => by
    rw [Bool.eq_iff_iff, Bool.and_eq_true, Bool.and_eq_true, memB_iff, memB_iff, h2]
    rw [show (!innB x n) = true ↔ ¬ inn x n by rw [← innB_iff]; simp]
    exact ⟨fun ⟨h, h'⟩ => ⟨h.resolve_right h', h'⟩, fun ⟨h, h'⟩ => ⟨.inl h, h'⟩⟩
  rw [e1, e2, cnt_own hx, outside_cnt hS hx]
  omega
theorem cut_add_mem {S : List Sp} {x : Sp} (hS : OkS S) (hx : May x) (n : Int) : mem (cutF (addF S x) x) n ↔ mem S n ∧ ¬ inn x n := by
  obtain ⟨h1, h2⟩ := add_ok hS hx
  rw [(cut_ok h1 hx).2, h2]
  exact ⟨fun ⟨h, h'⟩ => ⟨h.resolve_right h', h'⟩, fun ⟨h, h'⟩ => ⟨.inl h, h'⟩⟩
theorem total_add_cut {S : List Sp} {x : Sp} (hS : OkS S) (hx : May x) : total (cutF (addF S x) x) = total S - insideN S x :=
  total_out hS hx (cut_ok (add_ok hS hx).1 hx).1 (cut_add_mem hS hx)
theorem cut_add {S : List Sp} {x : Sp} (hS : OkS S) (hx : May x) : cutF (addF S x) x = cutF S x :=
  ok_eq (cut_ok (add_ok hS hx).1 hx).1 (cut_ok hS hx).1 fun n => by rw [cut_add_mem hS hx, (cut_ok hS hx).2]
theorem add_cut {S : List Sp} {x : Sp} (hS : OkS S) (hx : May x) : addF (cutF S x) x = addF S x :=
  ok_eq (add_ok (cut_ok hS hx).1 hx).1 (add_ok hS hx).1 fun n => by
    rw [(add_ok (cut_ok hS hx).1 hx).2, (add_ok hS hx).2, (cut_ok hS hx).2]
    by_cases h : inn x n <;> simp [h]
theorem meets_iff {S : List Sp} {x : Sp} (hS : OkS S) (hx : May x) : meetsF S x = true ↔ ∃ i : Nat, i < x.2.toNat ∧ memB S (x.1 + i) = true := by
  unfold meetsF
  rw [(mayB_iff x).2 hx]
  simp only [Bool.true_and, Bool.and_eq_true, Bool.not_eq_true', decide_eq_false_iff_not]
  rw [List.any_eq_true]
  obtain ⟨hx0, hx1, hx2⟩ := hx
  constructor
  · rintro ⟨h0, y, hy, hm⟩
    have hv := hS.val y hy
    unfold meetB at hm
    simp only [Bool.and_eq_true, decide_eq_true_eq] at hm
    unfold en at *
    by_cases hc : x.1 ≤ y.1
    · refine ⟨(y.1 - x.1).toNat, by omega, memB_iff.2 ⟨y, hy, ?_, ?_⟩⟩ <;> unfold en at * <;> omega
    · refine ⟨0, by omega, memB_iff.2 ⟨y, hy, ?_, ?_⟩⟩ <;> unfold en at * <;> omega
  · rintro ⟨i, hi, hm⟩
    obtain ⟨y, hy, h1, h2⟩ := memB_iff.1 hm
    refine ⟨by omega, y, hy, ?_⟩
    unfold meetB
    simp only [Bool.and_eq_true, decide_eq_true_eq]
    unfold en at *
    omega
theorem meets_inside {S : List Sp} {x : Sp} (hS : OkS S) (hx : May x) : meetsF S x = decide (0 < insideN S x) := by
  rw [Bool.eq_iff_iff, decide_eq_true_iff, meets_iff hS hx]
  unfold insideN
  exact (cnt_pos (p := fun i => memB S (x.1 + i))).symm
theorem meets_cut {S : List Sp} {x : Sp} (hS : OkS S) (hx : May x) : meetsF (cutF S x) x = false := by
  cases h : meetsF (cutF S x) x
  · rfl
  · obtain ⟨i, hi, hm⟩ := (meets_iff (cut_ok hS hx).1 hx).1 h
    rw [memB_iff, (cut_ok hS hx).2] at hm
    have := hx.2.1
    exact absurd ⟨by omega, by unfold en; omega⟩ hm.2
/-- what Has answers -/
def hasB (S : List Sp) (n : Int) : Bool := decide (n < 1048576) && meetsF S (n, 1)
theorem has_mem {S : List Sp} {n : Int} (hS : OkS S) : hasB S n = memB S n := by
  unfold hasB
  by_cases h1 : n < 1048576
  · rw [decide_eq_true h1, Bool.true_and]
    by_cases h0 : 0 ≤ n
    · rw [Bool.eq_iff_iff, meets_iff hS ⟨h0, by simp, by unfold en; simp only []; omega⟩]
      constructor
      · rintro ⟨i, hi, hm⟩
        have : i = 0 := by simp at hi; exact hi
        subst this
        simpa using hm
      · intro hm
        exact ⟨0, by simp, by simpa using hm⟩
    · have e1 : mayB (n, 1) = false := by
        cases h : mayB (n, 1)
        · rfl
        · exact absurd ((mayB_iff _).1 h).1 h0
      have e2 : memB S n = false := by
        cases h : memB S n
        · rfl
        · obtain ⟨y, hy, h2, _⟩ := memB_iff.1 h
          have := hS.val y hy
          omega
      unfold meetsF
      rw [e1, e2]; rfl
  · rw [decide_eq_false h1, Bool.false_and]
    cases h : memB S n
    · rfl
    · obtain ⟨y, hy, _, h2⟩ := memB_iff.1 h
      have := hS.val y hy
      omega
end Go.Proofs.Ytelkanfmhfopnaa

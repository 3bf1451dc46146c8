/- Plain laws for SpansTurns: spans parted and turned round. -/
import Derived.Test.YtelkanfmhfopnaaPlain
import Derived.Test.YtelkanfmhfopnaaSame2
namespace Go.Proofs.Ytelkanfmhfopnaa
open Go.LawEnd

def kk (at_ : Int) (x : Sp) : Int := if 0 < x.2 then (IntKind.i64.wrap (at_.tmod x.2 + x.2)).tmod x.2 else 0
def farB (x : Sp) : Bool := decide (1099511627776 < x.1) || decide (1099511627776 < x.2) || decide (x.1 < 0) || decide (x.2 < 0)
def pc (at_ : Int) (x : Sp) : List Sp := if farB x = true then [x] else [(x.1 + kk at_ x, x.2 - kk at_ x), (x.1, kk at_ x)]
def rotL (l : List Sp) (R k : Nat) : List Sp := (List.range k).map fun i => l[(R + i) % l.length]?.getD (0, 0)
def turned (at_ : Int) (l : List Sp) (R k : Nat) : List Sp := (rotL l R k).flatMap (pc at_)
theorem tmod_gt (a : Int) {b : Int} (h : 0 < b) : -b < a.tmod b := by
  have h1 := Int.tmod_lt_of_pos (-a) h
  rw [Int.neg_tmod] at h1
  omega
theorem kk_range {at_ : Int} {x : Sp} (h0 : 0 ≤ x.2) (h1 : x.2 ≤ 1099511627776) : 0 ≤ kk at_ x ∧ kk at_ x ≤ x.2 := by
  unfold kk
  split
  · rename_i hp
    have h2 := Int.tmod_lt_of_pos at_ hp
    have h3 := tmod_gt at_ hp
    rw [IntWalk.i64_in _ (by omega)]
    have h4 := Int.tmod_nonneg x.2 (a := at_.tmod x.2 + x.2) (by omega)
    have h5 := Int.tmod_lt_of_pos (at_.tmod x.2 + x.2) hp
    omega
  · omega
theorem far_iff {x : Sp} : farB x = false ↔ (x.1 ≤ 1099511627776 ∧ x.2 ≤ 1099511627776) ∧ 0 ≤ x.1 ∧ 0 ≤ x.2 := by
  unfold farB
  simp only [Bool.or_eq_false_iff, decide_eq_false_iff_not]
  omega
theorem may_far {x : Sp} (h : May x) : farB x = false := by
  rw [far_iff]
  unfold May en at h
  omega
theorem pc_mem {at_ : Int} {x : Sp} {n : Int} : mem (pc at_ x) n ↔ inn x n := by
  unfold pc
  split
  · exact mem_one
  · rename_i h
    obtain ⟨⟨_, h1⟩, _, h2⟩ := far_iff.1 (by simpa using h)
    obtain ⟨h3, h4⟩ := kk_range (at_ := at_) h2 h1
    rw [mem_cons, mem_one]
    unfold inn en
    simp only []
    omega
theorem pc_may {at_ : Int} {x : Sp} (h : May x) : ∀ y ∈ pc at_ x, May y := by
  unfold pc
  rw [if_neg (by rw [may_far h]; simp)]
  have h0 := h
  unfold May en at h
  obtain ⟨h3, h4⟩ := kk_range (at_ := at_) h.2.1 (by omega)
  intro y hy
  simp only [List.mem_cons, List.not_mem_nil, or_false] at hy
  rcases hy with rfl | rfl <;> unfold May en <;> simp only [] <;> omega
theorem pc_not {at_ : Int} {x : Sp} (h : ¬ May x) : ∃ y ∈ pc at_ x, ¬ May y := by
  unfold pc
  split
  · exact ⟨x, by simp, h⟩
  · rename_i hf
    obtain ⟨⟨_, h1⟩, h0, h2⟩ := far_iff.1 (by simpa using hf)
    refine ⟨_, List.mem_cons_self .., ?_⟩
    obtain ⟨h3, h4⟩ := kk_range (at_ := at_) h2 h1
    unfold May en at h ⊢
    simp only []
    omega
theorem pc_i64 {at_ : Int} {x : Sp} (h : I64 x) : ∀ y ∈ pc at_ x, I64 y := by
  unfold pc
  split
  · intro y hy
    rw [List.mem_singleton.1 hy]; exact h
  · rename_i hf
    obtain ⟨⟨_, h1⟩, h0, h2⟩ := far_iff.1 (by simpa using hf)
    obtain ⟨h3, h4⟩ := kk_range (at_ := at_) h2 h1
    intro y hy
    simp only [List.mem_cons, List.not_mem_nil, or_false] at hy
    rcases hy with rfl | rfl <;> unfold I64 <;> simp only [] <;> omega
theorem rotL_mem {l : List Sp} {R : Nat} (hR : R < l.length) (x : Sp) : x ∈ rotL l R l.length ↔ x ∈ l := by
  unfold rotL
  rw [List.mem_map]
  constructor
  · rintro ⟨i, _, rfl⟩
    have hlt : (R + i) % l.length < l.length := Nat.mod_lt _ (by omega)
    rw [List.getElem?_eq_getElem hlt]
    exact List.getElem_mem hlt
  · intro hx
    obtain ⟨j, hj, rfl⟩ := List.getElem_of_mem hx
    refine ⟨(j + (l.length - R)) % l.length, List.mem_range.2 (Nat.mod_lt _ (by omega)), ?_⟩
    have : (R + (j + (l.length - R)) % l.length) % l.length = j := by
      rw [Nat.add_mod, Nat.mod_mod, ← Nat.add_mod, show R + (j + (l.length - R)) = j + l.length by omega, Nat.add_mod_right, Nat.mod_eq_of_lt hj]
    rw [this, List.getElem?_eq_getElem hj]; rfl
theorem turned_mem {at_ : Int} {l : List Sp} {R : Nat} (hR : R < l.length) (n : Int) : mem (turned at_ l R l.length) n ↔ mem l n := by
  unfold turned
  constructor
  · rintro ⟨y, hy, hn⟩
    obtain ⟨x, hx, hyx⟩ := List.mem_flatMap.1 hy
    exact ⟨x, (rotL_mem hR x).1 hx, pc_mem.1 ⟨y, hyx, hn⟩⟩
  · rintro ⟨x, hx, hn⟩
    obtain ⟨y, hy, hyn⟩ := (pc_mem (at_ := at_)).2 hn
    exact ⟨y, List.mem_flatMap.2 ⟨x, (rotL_mem hR x).2 hx, hy⟩, hyn⟩
theorem turned_may {at_ : Int} {l : List Sp} {R : Nat} (hR : R < l.length) (h : ∀ x ∈ l, May x) : ∀ y ∈ turned at_ l R l.length, May y := by
  intro y hy
  obtain ⟨x, hx, hyx⟩ := List.mem_flatMap.1 hy
  exact pc_may (h x ((rotL_mem hR x).1 hx)) y hyx
theorem turned_not {at_ : Int} {l : List Sp} {R : Nat} (hR : R < l.length) (h : ∃ x ∈ l, mayB x = false) : ∃ y ∈ turned at_ l R l.length, mayB y = false := by
  obtain ⟨x, hx, hm⟩ := h
  obtain ⟨y, hy, hn⟩ := pc_not (at_ := at_) (x := x) (fun hh => by rw [(mayB_iff x).2 hh] at hm; cases hm)
  refine ⟨y, List.mem_flatMap.2 ⟨x, (rotL_mem hR x).2 hx, hy⟩, ?_⟩
  cases hb : mayB y
  · rfl
  · exact absurd ((mayB_iff y).1 hb) hn
theorem turned_i64 {at_ : Int} {l : List Sp} {R : Nat} (hR : R < l.length) (h : ∀ x ∈ l, I64 x) : ∀ y ∈ turned at_ l R l.length, I64 y := by
  intro y hy
  obtain ⟨x, hx, hyx⟩ := List.mem_flatMap.1 hy
  exact pc_i64 (h x ((rotL_mem hR x).1 hx)) y hyx
theorem turned_succ (at_ : Int) (l : List Sp) (R k : Nat) (h : (R + k) % l.length < l.length) : turned at_ l R (k + 1) = turned at_ l R k ++ pc at_ (l[(R + k) % l.length]) := by
  unfold turned rotL
  rw [List.range_succ, List.map_append, List.flatMap_append, List.map_singleton, List.flatMap_singleton, List.getElem?_eq_getElem h]
  rfl
theorem pc_len (at_ : Int) (x : Sp) : (pc at_ x).length ≤ 2 := by unfold pc; split <;> simp
theorem turned_len (at_ : Int) (l : List Sp) (R k : Nat) (h : 0 < l.length) : (turned at_ l R k).length ≤ 2 * k := by
  induction k with
  | zero => simp [turned, rotL]
  | succ k ih =>
    rw [turned_succ at_ l R k (Nat.mod_lt _ h), List.length_append]
    have := pc_len at_ (l[(R + k) % l.length]'(Nat.mod_lt _ h))
    omega
/-- it does not count how spans are parted, nor which is first -/
theorem turned_new {at_ : Int} {l : List Sp} {R : Nat} (hR : R < l.length) (h : ∀ x ∈ l, May x) : newF l = newF (turned at_ l R l.length) := by
  obtain ⟨h1, h2⟩ := newF_ok h
  obtain ⟨h3, h4⟩ := newF_ok (turned_may (at_ := at_) hR h)
  exact ok_eq h1 h3 fun n => by rw [h2, h4, turned_mem hR]
end Go.Proofs.Ytelkanfmhfopnaa

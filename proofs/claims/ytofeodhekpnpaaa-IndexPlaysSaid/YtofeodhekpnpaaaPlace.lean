/- The walk of place; what an index may be. -/
import Derived.Test.YtofeodhekpnpaaaRefPut
namespace Go.Proofs.Ytofeodhekpnpaaa
open Go.RowKit Go.LawEnd

theorem place_any (s : Int) (d : Bool) (e1 s' : Int) (d' : Bool) (e2 : Int) (w : World) : Calls Try.prog 26 #[.agg #[.int .i64 s, .bool d], .int .i64 e1, .int .i64 s', .bool d', .int .i64 e2] w fun e w' => e = .returned (.bool ((e1 == e2) && (d == d') && (s == s'))) ∧ Below w.heap.size w w' := by
  have HB := Lib.hid ((Below.refl w.heap.size w).alloc (Nat.le_refl _) (.cells #[.int .i64 s, .bool d] 35))
  cases h1 : (e1 == e2)
  · go_enter Try.func26, Try.ntmps26
    go_wp2
    go_ret
    exact ⟨rfl, HB.out⟩
  · cases h2 : (d == d')
    · go_enter Try.func26, Try.ntmps26
      go_wp2
      go_ret
      exact ⟨rfl, HB.out⟩
    · go_enter Try.func26, Try.ntmps26
      go_wp2
      go_ret
      exact ⟨rfl, HB.out⟩

/-- the map tells just where blocks are -/
structure Ok (slots : Nat) (l : List (Int × Bool)) (f : Int → Option Int) : Prop where
  fit : Fit slots l
  map : ∀ (s j : Int), f s = some j ↔ 0 ≤ s ∧ ∃ i : Nat, j = (i : Int) ∧ ∃ d, l[i]? = some (s, d)
theorem Ok.start (slots k : Nat) : Ok slots (List.replicate k (-1, false)) (fun _ => none) := by
  refine ⟨fun p hp => .inl (List.eq_of_mem_replicate hp), fun s j => ?_⟩
  constructor
  · intro h; cases h
  · rintro ⟨h0, i, _, d, hd⟩
    rw [List.getElem?_replicate] at hd
    split at hd
    · injection hd with hd; injection hd with hd _; omega
    · cases hd
/-- a slot has one block -/
theorem Ok.one {slots : Nat} {l : List (Int × Bool)} {f : Int → Option Int} (h : Ok slots l f) {i j : Nat} {s : Int} {d e : Bool} (h0 : 0 ≤ s) (hi : l[i]? = some (s, d)) (hj : l[j]? = some (s, e)) : i = j := by
  have h1 := (h.map s i).2 ⟨h0, i, rfl, d, hi⟩
  have h2 := (h.map s j).2 ⟨h0, j, rfl, e, hj⟩
  rw [h1] at h2
  injection h2 with h2
  omega
theorem Fit.set {slots : Nat} {l : List (Int × Bool)} (h : Fit slots l) (i : Nat) {p : Int × Bool} (hp : p = (-1, false) ∨ (0 ≤ p.1 ∧ p.1 < (slots : Int))) : Fit slots (l.set i p) := by
  intro q hq
  rcases List.mem_or_eq_of_mem_set hq with hq | rfl
  · exact h q hq
  · exact hp
theorem Ok.put {slots : Nat} {l : List (Int × Bool)} {f : Int → Option Int} (h : Ok slots l f) (i : Nat) (hi : i < l.length) {s s0 : Int} {d d0 : Bool} (h0 : 0 ≤ s) (h1 : s < slots) (he : l[i] = (s0, d0)) (hf : f s = none ∨ f s = some (i : Int)) : Ok slots (l.set i (s, d)) (upd (era f s0) s (i : Int)) := by
  have he' : l[i]? = some (s0, d0) := by rw [List.getElem?_eq_getElem hi, he]
  refine ⟨h.fit.set i (.inr ⟨h0, h1⟩), fun t j => ?_⟩
  unfold upd era
  by_cases ht : t = s
  · subst ht
    rw [if_pos rfl]
    constructor
    · rintro e
      injection e with e
      exact ⟨h0, i, e.symm, d, by rw [List.getElem?_set_self hi]⟩
    · rintro ⟨_, k, rfl, dd, hk⟩
      by_cases hik : i = k
      · rw [hik]
      · rw [List.getElem?_set_ne hik] at hk
        have hm := (h.map t k).2 ⟨h0, k, rfl, dd, hk⟩
        rcases hf with e | e
        · rw [e] at hm; cases hm
        · rw [e] at hm; exact hm
  · rw [if_neg ht]
    by_cases hts : t = s0
    · subst hts
      rw [if_pos rfl]
      constructor
      · intro e; cases e
      · rintro ⟨ht0, k, rfl, dd, hk⟩
        by_cases hik : i = k
        · subst hik
          rw [List.getElem?_set_self hi] at hk
          injection hk with hk; injection hk with hk _
          exact absurd hk.symm ht
        · rw [List.getElem?_set_ne hik] at hk
          exact absurd (h.one ht0 he' hk) hik
    · rw [if_neg hts, h.map t j]
      constructor
      · rintro ⟨ht0, k, rfl, dd, hk⟩
        have hik : i ≠ k := by rintro rfl; rw [he'] at hk; injection hk with hk; injection hk with hk _; exact hts hk.symm
        exact ⟨ht0, k, rfl, dd, by rw [List.getElem?_set_ne hik]; exact hk⟩
      · rintro ⟨ht0, k, rfl, dd, hk⟩
        by_cases hik : i = k
        · subst hik
          rw [List.getElem?_set_self hi] at hk
          injection hk with hk; injection hk with hk _
          exact absurd hk.symm ht
        · rw [List.getElem?_set_ne hik] at hk
          exact ⟨ht0, k, rfl, dd, hk⟩
theorem Ok.drop {slots : Nat} {l : List (Int × Bool)} {f : Int → Option Int} (h : Ok slots l f) (i : Nat) (hi : i < l.length) {s : Int} {d : Bool} (h0 : 0 ≤ s) (he : l[i] = (s, d)) : Ok slots (l.set i (-1, false)) (era f s) := by
  have he' : l[i]? = some (s, d) := by rw [List.getElem?_eq_getElem hi, he]
  refine ⟨h.fit.set i (.inl rfl), fun t j => ?_⟩
  unfold era
  by_cases hts : t = s
  · subst hts
    rw [if_pos rfl]
    constructor
    · intro e; cases e
    · rintro ⟨ht0, k, rfl, dd, hk⟩
      by_cases hik : i = k
      · subst hik
        rw [List.getElem?_set_self hi] at hk
        injection hk with hk; injection hk with hk _
        omega
      · rw [List.getElem?_set_ne hik] at hk
        exact absurd (h.one ht0 he' hk) hik
  · rw [if_neg hts, h.map t j]
    constructor
    · rintro ⟨ht0, k, rfl, dd, hk⟩
      have hik : i ≠ k := by rintro rfl; rw [he'] at hk; injection hk with hk; injection hk with hk _; exact hts hk.symm
      exact ⟨ht0, k, rfl, dd, by rw [List.getElem?_set_ne hik]; exact hk⟩
    · rintro ⟨ht0, k, rfl, dd, hk⟩
      by_cases hik : i = k
      · subst hik
        rw [List.getElem?_set_self hi] at hk
        injection hk with hk; injection hk with hk _
        omega
      · rw [List.getElem?_set_ne hik] at hk
        exact ⟨ht0, k, rfl, dd, hk⟩
theorem Ok.clean {slots : Nat} {l : List (Int × Bool)} {f : Int → Option Int} (h : Ok slots l f) (i : Nat) (hi : i < l.length) {s : Int} {d : Bool} (h0 : 0 ≤ s) (h1 : s < slots) (he : l[i] = (s, d)) : Ok slots (l.set i (s, false)) f := by
  have he' : l[i]? = some (s, d) := by rw [List.getElem?_eq_getElem hi, he]
  refine ⟨h.fit.set i (.inr ⟨h0, h1⟩), fun t j => ?_⟩
  rw [h.map t j]
  constructor
  · rintro ⟨ht0, k, rfl, dd, hk⟩
    by_cases hik : i = k
    · subst hik
      rw [he'] at hk
      injection hk with hk; injection hk with hk _
      subst hk
      exact ⟨ht0, i, rfl, false, by rw [List.getElem?_set_self hi]⟩
    · exact ⟨ht0, k, rfl, dd, by rw [List.getElem?_set_ne hik]; exact hk⟩
  · rintro ⟨ht0, k, rfl, dd, hk⟩
    by_cases hik : i = k
    · subst hik
      rw [List.getElem?_set_self hi] at hk
      injection hk with hk; injection hk with hk _
      subst hk
      exact ⟨ht0, i, rfl, d, he'⟩
    · rw [List.getElem?_set_ne hik] at hk
      exact ⟨ht0, k, rfl, dd, hk⟩
end Go.Proofs.Ytofeodhekpnpaaa

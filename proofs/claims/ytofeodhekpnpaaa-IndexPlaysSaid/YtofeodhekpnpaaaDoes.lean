/- The walk of does, with a document's index that is fresh. -/
import Derived.Test.YtofeodhekpnpaaaPut2
namespace Go.Proofs.Ytofeodhekpnpaaa
open Go.RowKit Go.LawEnd

/-- the index behind a call -/
structure St (w : World) (x : Nat) (g : Rowd) (b n slots len : Nat) : Prop where
  ex : ∃ l f, Idx w x g b n l f slots ∧ Ok slots l f ∧ l.length = len

section
variable {w : World} {x b n slots : Nat} {g : Rowd} {l : List (Int × Bool)} {f : Int → Option Int}
/-- Put, whatever comes -/
theorem put_st (i s : Int) (d : Bool) (h : Hid (Idx w x g b n l f slots)) (hok : Ok slots l f) (hl : l.length ≤ 4096) (h2 : slots ≤ 1024) (hn : n < maxLen) :
    Calls Try.prog 20 #[.pointer (some ⟨x, 0, none⟩), .int .i64 i, .agg #[.int .i64 s, .bool d]] w fun e w' => ∃ (p : Int) (q : Bool) (e1 : Int), e = .returned (.tuple #[.agg #[.int .i64 p, .bool q], .int .i64 e1]) ∧ St w' x g b (n + 1) slots l.length ∧ Ch (fun j => j = g ∨ j = b) w w' := by
  have keep : ∀ {w' : World}, Below w.heap.size w w' → St w' x g b (n + 1) slots l.length := fun hb => by
    have hi' := h.out.below hb (Nat.le_refl _)
    exact ⟨l, f, ⟨hi'.head, hi'.row, hi'.map.mono (Nat.le_succ n)⟩, hok, rfl⟩
  by_cases hi : i < 0 ∨ (l.length : Int) ≤ i
  · refine (put_noblock i s d h hi).mono ?_
    rintro e w' ⟨rfl, hb⟩
    exact ⟨_, _, _, rfl, keep hb, Ch.of_below hb (Nat.le_refl _)⟩
  · obtain ⟨j, rfl⟩ : ∃ j : Nat, i = j := ⟨i.toNat, by omega⟩
    have hj : j < l.length := by omega
    by_cases hs : s < 0 ∨ (slots : Int) ≤ s
    · refine (put_noslot j s d h hj hs).mono ?_
      rintro e w' ⟨rfl, hb⟩
      exact ⟨_, _, _, rfl, keep hb, Ch.of_below hb (Nat.le_refl _)⟩
    · have h0 : 0 ≤ s := by omega
      have h1 : s < slots := by omega
      by_cases ho : ∃ o, f s = some o ∧ o ≠ (j : Int)
      · obtain ⟨o, hf, hne⟩ := ho
        refine (put_there j s o d h hj h0 h1 h2 hf hne).mono ?_
        rintro e w' ⟨rfl, hb⟩
        exact ⟨_, _, _, rfl, keep hb, Ch.of_below hb (Nat.le_refl _)⟩
      · have hf : f s = none ∨ f s = some (j : Int) := by
          cases hfs : f s with
          | none => exact .inl rfl
          | some o =>
            right
            by_cases he : o = (j : Int)
            · rw [he]
            · exact absurd ⟨o, hfs, he⟩ ho
        obtain ⟨s0, d0, he⟩ : ∃ s0 d0, l[j] = (s0, d0) := ⟨_, _, rfl⟩
        have hfit := hok.fit l[j] (List.getElem_mem hj)
        rw [he] at hfit
        have hb0 : -1 ≤ s0 ∧ s0 < (slots : Int) := by
          rcases hfit with e | ⟨a, b⟩
          · injection e with e _; omega
          · simp at a b; omega
        refine (put_ok j s s0 d d0 h hj he h0 h1 h2 hb0.1 hb0.2 hf hn hl).mono ?_
        rintro e w' ⟨rfl, hI, hC⟩
        exact ⟨_, _, _, rfl, ⟨_, _, hI, hok.put j hj h0 h1 he hf, by simp⟩, hC⟩
/-- Drop, whatever comes -/
theorem drop_st (i : Int) (h : Hid (Idx w x g b n l f slots)) (hok : Ok slots l f) (h2 : slots ≤ 1024) :
    Calls Try.prog 21 #[.pointer (some ⟨x, 0, none⟩), .int .i64 i] w fun e w' => ∃ (p : Int) (q : Bool) (e1 : Int), e = .returned (.tuple #[.agg #[.int .i64 p, .bool q], .int .i64 e1]) ∧ St w' x g b n slots l.length ∧ Ch (fun j => j = g ∨ j = b) w w' := by
  have hA : Below w.heap.size w (w.alloc (.cells #[.int .i64 0, .bool false] 35)) := (Below.refl _ w).alloc (Nat.le_refl _) _
  have h' := Lib.hid (h.out.below hA (Nat.le_refl _))
  have keep : ∀ {w' : World}, Below w.heap.size w w' → St w' x g b n slots l.length := fun hb => ⟨l, f, h.out.below hb (Nat.le_refl _), hok, rfl⟩
  by_cases hi : i < 0 ∨ (l.length : Int) ≤ i
  · refine (drop_no i 10 ((get_out i h' hi).mono (fun e w' he => ⟨he.1, by simpa using he.2⟩)) (by decide)).mono ?_
    rintro e w' ⟨rfl, hb⟩
    exact ⟨_, _, _, rfl, keep hb, Ch.of_below hb (Nat.le_refl _)⟩
  · obtain ⟨j, rfl⟩ : ∃ j : Nat, i = j := ⟨i.toNat, by omega⟩
    have hj : j < l.length := by omega
    obtain ⟨s0, d0, he⟩ : ∃ s0 d0, l[j] = (s0, d0) := ⟨_, _, rfl⟩
    have hfit := hok.fit l[j] (List.getElem_mem hj)
    rw [he] at hfit
    rcases hfit with e | ⟨a, c⟩
    · refine (drop_no (j : Int) 14 ((get_none j h' hj (by rw [he, e])).mono (fun e w' he => ⟨he.1, by simpa using he.2⟩)) (by decide)).mono ?_
      rintro e w' ⟨rfl, hb⟩
      exact ⟨_, _, _, rfl, keep hb, Ch.of_below hb (Nat.le_refl _)⟩
    · refine (drop_ok j s0 d0 a c h2 h hj he).mono ?_
      rintro e w' ⟨rfl, hI, hC⟩
      exact ⟨_, _, _, rfl, ⟨_, _, hI, hok.drop j hj a he, by simp⟩, hC⟩
/-- Clean, whatever comes -/
theorem clean_st (i : Int) (h : Hid (Idx w x g b n l f slots)) (hok : Ok slots l f) :
    Calls Try.prog 18 #[.pointer (some ⟨x, 0, none⟩), .int .i64 i] w fun e w' => ∃ (e1 : Int), e = .returned (.int .i64 e1) ∧ St w' x g b n slots l.length ∧ Ch (fun j => j = g ∨ j = b) w w' := by
  have keep : ∀ {w' : World}, Below w.heap.size w w' → St w' x g b n slots l.length := fun hb => ⟨l, f, h.out.below hb (Nat.le_refl _), hok, rfl⟩
  by_cases hi : i < 0 ∨ (l.length : Int) ≤ i
  · refine (clean_no i 10 (get_out i h hi) (by decide)).mono ?_
    rintro e w' ⟨rfl, hb⟩
    exact ⟨_, rfl, keep hb, Ch.of_below hb (Nat.le_refl _)⟩
  · obtain ⟨j, rfl⟩ : ∃ j : Nat, i = j := ⟨i.toNat, by omega⟩
    have hj : j < l.length := by omega
    obtain ⟨s0, d0, he⟩ : ∃ s0 d0, l[j] = (s0, d0) := ⟨_, _, rfl⟩
    have hfit := hok.fit l[j] (List.getElem_mem hj)
    rw [he] at hfit
    rcases hfit with e | ⟨a, c⟩
    · refine (clean_no (j : Int) 14 (get_none j h hj (by rw [he, e])) (by decide)).mono ?_
      rintro e w' ⟨rfl, hb⟩
      exact ⟨_, rfl, keep hb, Ch.of_below hb (Nat.le_refl _)⟩
    · have hs : (s0 == -1) = false := by rw [beq_eq_false_iff_ne]; simp at a; omega
      refine (clean_ok j s0 d0 hs h hj he).mono ?_
      rintro e w' ⟨rfl, hI, hC⟩
      exact ⟨_, rfl, ⟨_, _, hI, hok.clean j hj a c he, by simp⟩, hC⟩
end
end Go.Proofs.Ytofeodhekpnpaaa

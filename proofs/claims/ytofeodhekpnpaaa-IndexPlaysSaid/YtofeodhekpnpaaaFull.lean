/- Put, Get, Drop, Clean, whatever comes: what they answer, and what is there then, as functions. -/
import Derived.Test.YtofeodhekpnpaaaDoes
namespace Go.Proofs.Ytofeodhekpnpaaa
open Go.RowKit Go.LawEnd

abbrev Pls := List (Int × Bool)
abbrev Ats := Int → Option Int
def pl (l : Pls) (i : Int) : Int × Bool := l[i.toNat]?.getD (0, false)
def getF (l : Pls) (i : Int) : Int × Bool × Int :=
  if i < 0 ∨ (l.length : Int) ≤ i then (0, false, 10) else if pl l i = (-1, false) then (0, false, 14) else ((pl l i).1, (pl l i).2, 0)
def putF (slots : Nat) (l : Pls) (f : Ats) (i s : Int) (d : Bool) : (Int × Bool × Int) × Pls × Ats :=
  if i < 0 ∨ (l.length : Int) ≤ i then ((0, false, 10), l, f) else if s < 0 ∨ (slots : Int) ≤ s then ((0, false, 10), l, f) else
  if (f s).any (· != i) = true then ((0, false, 15), l, f) else (((pl l i).1, (pl l i).2, 0), l.set i.toNat (s, d), upd (era f (pl l i).1) s i)
def dropF (l : Pls) (f : Ats) (i : Int) : (Int × Bool × Int) × Pls × Ats :=
  if i < 0 ∨ (l.length : Int) ≤ i then ((0, false, 10), l, f) else if pl l i = (-1, false) then ((0, false, 14), l, f) else
  (((pl l i).1, (pl l i).2, 0), l.set i.toNat (-1, false), era f (pl l i).1)
def cleanF (l : Pls) (i : Int) : Int × Pls :=
  if i < 0 ∨ (l.length : Int) ≤ i then (10, l) else if pl l i = (-1, false) then (14, l) else (0, l.set i.toNat ((pl l i).1, false))

theorem pl_at {l : Pls} {j : Nat} (hj : j < l.length) : pl l (j : Int) = l[j] := by simp [pl, hj]
section
variable {w : World} {x b n slots : Nat} {g : Rowd} {l : Pls} {f : Ats}
theorem get_full (i : Int) (h : Hid (Idx w x g b n l f slots)) (hF : Fit slots l) :
    Calls Try.prog 13 #[.pointer (some ⟨x, 0, none⟩), .int .i64 i] w fun e w' => e = .returned (.tuple #[.agg #[.int .i64 (getF l i).1, .bool (getF l i).2.1], .int .i64 (getF l i).2.2]) ∧ Below w.heap.size w w' := by
  by_cases hi : i < 0 ∨ (l.length : Int) ≤ i
  · unfold getF; rw [if_pos hi]; exact get_out i h hi
  · obtain ⟨j, rfl⟩ : ∃ j : Nat, i = j := ⟨i.toNat, by omega⟩
    have hj : j < l.length := by omega
    have hp := pl_at hj
    unfold getF; rw [if_neg hi, hp]
    have hfit := hF l[j] (List.getElem_mem hj)
    rcases hfit with e | ⟨a, c⟩
    · rw [if_pos e]; exact get_none j h hj e
    · have hne : l[j] ≠ (-1, false) := fun e => by rw [e] at a; simp at a
      rw [if_neg hne]
      exact get_some j l[j].1 l[j].2 (by rw [beq_eq_false_iff_ne]; omega) h hj rfl
theorem clean_full (i : Int) (h : Hid (Idx w x g b n l f slots)) (hF : Fit slots l) :
    Calls Try.prog 18 #[.pointer (some ⟨x, 0, none⟩), .int .i64 i] w fun e w' => e = .returned (.int .i64 (cleanF l i).1) ∧ Idx w' x g b n (cleanF l i).2 f slots ∧ Ch (fun j => j = g ∨ j = b) w w' := by
  by_cases hi : i < 0 ∨ (l.length : Int) ≤ i
  · unfold cleanF; rw [if_pos hi]
    refine (clean_no i 10 (get_out i h hi) (by decide)).mono ?_
    rintro e w' ⟨rfl, hb⟩
    exact ⟨rfl, h.out.below hb (Nat.le_refl _), Ch.of_below hb (Nat.le_refl _)⟩
  · obtain ⟨j, rfl⟩ : ∃ j : Nat, i = j := ⟨i.toNat, by omega⟩
    have hj : j < l.length := by omega
    have hp := pl_at hj
    unfold cleanF; rw [if_neg hi, hp]
    have hfit := hF l[j] (List.getElem_mem hj)
    rcases hfit with e | ⟨a, c⟩
    · rw [if_pos e]
      refine (clean_no (j : Int) 14 (get_none j h hj e) (by decide)).mono ?_
      rintro e w' ⟨rfl, hb⟩
      exact ⟨rfl, h.out.below hb (Nat.le_refl _), Ch.of_below hb (Nat.le_refl _)⟩
    · have hne : l[j] ≠ (-1, false) := fun e => by rw [e] at a; simp at a
      rw [if_neg hne]
      exact clean_ok j l[j].1 l[j].2 (by rw [beq_eq_false_iff_ne]; omega) h hj rfl
theorem drop_full (i : Int) (h : Hid (Idx w x g b n l f slots)) (hF : Fit slots l) (h2 : slots ≤ 1024) :
    Calls Try.prog 21 #[.pointer (some ⟨x, 0, none⟩), .int .i64 i] w fun e w' => e = .returned (.tuple #[.agg #[.int .i64 (dropF l f i).1.1, .bool (dropF l f i).1.2.1], .int .i64 (dropF l f i).1.2.2]) ∧ Idx w' x g b n (dropF l f i).2.1 (dropF l f i).2.2 slots ∧ Ch (fun j => j = g ∨ j = b) w w' := by
  have hA : Below w.heap.size w (w.alloc (.cells #[.int .i64 0, .bool false] 35)) := (Below.refl _ w).alloc (Nat.le_refl _) _
  have h' := Lib.hid (h.out.below hA (Nat.le_refl _))
  by_cases hi : i < 0 ∨ (l.length : Int) ≤ i
  · unfold dropF; rw [if_pos hi]
    refine (drop_no i 10 ((get_out i h' hi).mono (fun e w' he => ⟨he.1, by simpa using he.2⟩)) (by decide)).mono ?_
    rintro e w' ⟨rfl, hb⟩
    exact ⟨rfl, h.out.below hb (Nat.le_refl _), Ch.of_below hb (Nat.le_refl _)⟩
  · obtain ⟨j, rfl⟩ : ∃ j : Nat, i = j := ⟨i.toNat, by omega⟩
    have hj : j < l.length := by omega
    have hp := pl_at hj
    unfold dropF; rw [if_neg hi, hp]
    have hfit := hF l[j] (List.getElem_mem hj)
    rcases hfit with e | ⟨a, c⟩
    · rw [if_pos e]
      refine (drop_no (j : Int) 14 ((get_none j h' hj e).mono (fun e w' he => ⟨he.1, by simpa using he.2⟩)) (by decide)).mono ?_
      rintro e w' ⟨rfl, hb⟩
      exact ⟨rfl, h.out.below hb (Nat.le_refl _), Ch.of_below hb (Nat.le_refl _)⟩
    · have hne : l[j] ≠ (-1, false) := fun e => by rw [e] at a; simp at a
      rw [if_neg hne]
      exact drop_ok j l[j].1 l[j].2 a c h2 h hj rfl
theorem put_full (i s : Int) (d : Bool) (h : Hid (Idx w x g b n l f slots)) (hF : Fit slots l) (hl : l.length ≤ 4096) (h2 : slots ≤ 1024) (hn : n < maxLen) :
    Calls Try.prog 20 #[.pointer (some ⟨x, 0, none⟩), .int .i64 i, .agg #[.int .i64 s, .bool d]] w fun e w' => e = .returned (.tuple #[.agg #[.int .i64 (putF slots l f i s d).1.1, .bool (putF slots l f i s d).1.2.1], .int .i64 (putF slots l f i s d).1.2.2]) ∧ Idx w' x g b (n + 1) (putF slots l f i s d).2.1 (putF slots l f i s d).2.2 slots ∧ Ch (fun j => j = g ∨ j = b) w w' := by
  have keep : ∀ {w' : World}, Below w.heap.size w w' → Idx w' x g b (n + 1) l f slots := fun hb => by
    have hi' := h.out.below hb (Nat.le_refl _)
    exact ⟨hi'.head, hi'.row, hi'.map.mono (Nat.le_succ n)⟩
  by_cases hi : i < 0 ∨ (l.length : Int) ≤ i
  · unfold putF; rw [if_pos hi]
    refine (put_noblock i s d h hi).mono ?_
    rintro e w' ⟨rfl, hb⟩
    exact ⟨rfl, keep hb, Ch.of_below hb (Nat.le_refl _)⟩
  · obtain ⟨j, rfl⟩ : ∃ j : Nat, i = j := ⟨i.toNat, by omega⟩
    have hj : j < l.length := by omega
    have hp := pl_at hj
    by_cases hs : s < 0 ∨ (slots : Int) ≤ s
    · unfold putF; rw [if_neg hi, if_pos hs]
      refine (put_noslot j s d h hj hs).mono ?_
      rintro e w' ⟨rfl, hb⟩
      exact ⟨rfl, keep hb, Ch.of_below hb (Nat.le_refl _)⟩
    · have h0 : 0 ≤ s := by omega
      have h1 : s < slots := by omega
      by_cases ho : (f s).any (· != (j : Int)) = true
      · unfold putF; rw [if_neg hi, if_neg hs, if_pos ho]
        obtain ⟨o, hf, hne⟩ : ∃ o, f s = some o ∧ o ≠ (j : Int) := by
          cases hfs : f s with
          | none => rw [hfs] at ho; cases ho
          | some o => rw [hfs] at ho; exact ⟨o, rfl, by simpa using ho⟩
        refine (put_there j s o d h hj h0 h1 h2 hf hne).mono ?_
        rintro e w' ⟨rfl, hb⟩
        exact ⟨rfl, keep hb, Ch.of_below hb (Nat.le_refl _)⟩
      · have hf : f s = none ∨ f s = some (j : Int) := by
          cases hfs : f s with
          | none => exact .inl rfl
          | some o =>
            right
            rw [hfs] at ho
            have : o = (j : Int) := by simpa using ho
            rw [this]
        unfold putF; rw [if_neg hi, if_neg hs, if_neg ho, hp]
        have hfit := hF l[j] (List.getElem_mem hj)
        have hb0 : -1 ≤ l[j].1 ∧ l[j].1 < (slots : Int) := by
          rcases hfit with e | ⟨a, b⟩
          · rw [e]; simp; omega
          · omega
        exact put_ok j s l[j].1 d l[j].2 h hj rfl h0 h1 h2 hb0.1 hb0.2 hf hn hl
end
section
variable {slots : Nat} {l : Pls} {f : Ats}
theorem Ok.putF_ (h : Ok slots l f) (i s : Int) (d : Bool) : Ok slots (putF slots l f i s d).2.1 (putF slots l f i s d).2.2 ∧ (putF slots l f i s d).2.1.length = l.length := by
  unfold putF
  by_cases hi : i < 0 ∨ (l.length : Int) ≤ i
  · rw [if_pos hi]; exact ⟨h, rfl⟩
  · rw [if_neg hi]
    obtain ⟨j, rfl⟩ : ∃ j : Nat, i = j := ⟨i.toNat, by omega⟩
    have hj : j < l.length := by omega
    by_cases hs : s < 0 ∨ (slots : Int) ≤ s
    · rw [if_pos hs]; exact ⟨h, rfl⟩
    · rw [if_neg hs]
      by_cases ho : (f s).any (· != (j : Int)) = true
      · rw [if_pos ho]; exact ⟨h, rfl⟩
      · rw [if_neg ho, pl_at hj]
        have hf : f s = none ∨ f s = some (j : Int) := by
          cases hfs : f s with
          | none => exact .inl rfl
          | some o =>
            right
            rw [hfs] at ho
            have : o = (j : Int) := by simpa using ho
            rw [this]
        exact ⟨h.put j hj (by omega) (by omega) (d0 := l[j].2) rfl hf, by simp⟩
theorem Ok.dropF_ (h : Ok slots l f) (i : Int) : Ok slots (dropF l f i).2.1 (dropF l f i).2.2 ∧ (dropF l f i).2.1.length = l.length := by
  unfold dropF
  by_cases hi : i < 0 ∨ (l.length : Int) ≤ i
  · rw [if_pos hi]; exact ⟨h, rfl⟩
  · rw [if_neg hi]
    obtain ⟨j, rfl⟩ : ∃ j : Nat, i = j := ⟨i.toNat, by omega⟩
    have hj : j < l.length := by omega
    rw [pl_at hj]
    rcases h.fit l[j] (List.getElem_mem hj) with e | ⟨a, c⟩
    · rw [if_pos e]; exact ⟨h, rfl⟩
    · rw [if_neg (fun e => by rw [e] at a; simp at a)]
      exact ⟨h.drop j hj (d := l[j].2) a rfl, by simp⟩
theorem Ok.cleanF_ (h : Ok slots l f) (i : Int) : Ok slots (cleanF l i).2 f ∧ (cleanF l i).2.length = l.length := by
  unfold cleanF
  by_cases hi : i < 0 ∨ (l.length : Int) ≤ i
  · rw [if_pos hi]; exact ⟨h, rfl⟩
  · rw [if_neg hi]
    obtain ⟨j, rfl⟩ : ∃ j : Nat, i = j := ⟨i.toNat, by omega⟩
    have hj : j < l.length := by omega
    rw [pl_at hj]
    rcases h.fit l[j] (List.getElem_mem hj) with e | ⟨a, c⟩
    · rw [if_pos e]; exact ⟨h, rfl⟩
    · rw [if_neg (fun e => by rw [e] at a; simp at a)]
      exact ⟨h.clean j hj (d := l[j].2) a c rfl, by simp⟩
end
end Go.Proofs.Ytofeodhekpnpaaa

/- Put and Scrub of both ledgers, each under one statement. -/
import Derived.Test.YtieojomabmippaaInv
namespace Go.Proofs.Ytieojomabmippaa
open Go.RowKit Go.LawEnd

def okO (n : Nat) (B s b : Int) : Bool := thereB n s && decide (-1 ≤ b ∧ b < B)
def codeB (ok : Bool) : Int := bif ok then 0 else 10
def nextL (l : List Int) (b : Int) : List Int := if b = -1 then [-1] else if (-1 : Int) ∈ l then l else ins b l
def putT (n : Nat) (B : Int) (L : Lg) (s b : Int) : Lg := if okO n B s b = true then putS L s.toNat (nextL ((L.sets[s.toNat]?).getD []) b) else L
def putR (n : Nat) (B : Int) (R : List Pr) (s b : Int) : List Pr := if okO n B s b = true then (if b = -1 then offS s R ++ [(s, -1)] else if (s, -1) ∈ R ∨ (s, b) ∈ R then R else R ++ [(s, b)]) else R
def scrubT (n : Nat) (L : Lg) (s : Int) : Lg := if thereB n s = true then putS L s.toNat [] else L
theorem thereB_iff {n : Nat} {s : Int} : thereB n s = true ↔ 0 ≤ s ∧ s < (n : Int) := by unfold thereB; simp
theorem okO_iff {n : Nat} {B s b : Int} : okO n B s b = true ↔ (0 ≤ s ∧ s < (n : Int)) ∧ -1 ≤ b ∧ b < B := by unfold okO; rw [Bool.and_eq_true, thereB_iff, decide_eq_true_eq]
section
variable {n k m x r : Nat} {B : Int} {L : Lg} {R : List Pr} {T : Nat → Prop} {w : World}
theorem LInv.putT (h : LInv n B k L R) (s b : Int) : LInv n B (k + 1) (putT n B L s b) (putR n B R s b) := by
  unfold Go.Proofs.Ytieojomabmippaa.putT putR
  by_cases hok : okO n B s b = true
  · rw [if_pos hok, if_pos hok]
    obtain ⟨⟨h0, h1⟩, h2, h3⟩ := okO_iff.1 hok
    obtain ⟨i, rfl⟩ := Int.eq_ofNat_of_zero_le h0
    rw [Int.toNat_natCast]
    obtain ⟨l, hl⟩ := h.at_ (i := i) (by omega)
    rw [hl, Option.getD_some]
    unfold nextL
    by_cases hb : b = -1
    · rw [if_pos hb, if_pos hb]; exact h.any
    · rw [if_neg hb, if_neg hb]
      by_cases hm : (-1 : Int) ∈ l
      · rw [if_pos hm, if_pos (.inl ((h.same i l hl _).2 hm)), putS_same hl]; exact h.mono (Nat.le_succ _)
      · rw [if_neg hm]
        by_cases hbl : b ∈ l
        · rw [if_pos (.inr ((h.same i l hl _).2 hbl))]; exact h.had hl hbl
        · rw [if_neg (by rintro (e | e); exact hm ((h.same i l hl _).1 e); exact hbl ((h.same i l hl _).1 e))]; exact h.ins hl ⟨by omega, h3⟩ hm
  · rw [if_neg hok, if_neg hok]; exact h.mono (Nat.le_succ _)
theorem LInv.scrubT (h : LInv n B k L R) (s : Int) : LInv n B (k + 1) (scrubT n L s) (offS s R) := by
  unfold Go.Proofs.Ytieojomabmippaa.scrubT
  by_cases ht : thereB n s = true
  · rw [if_pos ht]
    have h0 := thereB_iff.1 ht
    obtain ⟨i, rfl⟩ := Int.eq_ofNat_of_zero_le h0.1
    rw [Int.toNat_natCast]
    exact h.scrub
  · rw [if_neg ht]; exact h.off (fun h => ht (thereB_iff.2 h))
theorem put_lg (s b : Int) (HI : Hid (LInv n B k L R)) (hm : Hid (m ≤ 1000 ∧ 0 ≤ B ∧ B ≤ 1000)) (h : Hid (Sep [lgA x m L] w T)) :
    Calls Try.prog 11 #[.pointer (some ⟨x, 0, none⟩), .int .i64 s, .int .i64 b] w fun e w' => e = .returned (.int .i64 (codeB (okO n B s b))) ∧ Hv w T [lgA x (m + 1) (putT n B L s b)] w' := by
  have hs : ∀ w', Below w.heap.size w w' → Hv w T [lgA x (m + 1) L] w' := fun w' hb => lg_mono (Nat.le_succ _) ((Hv.start h.out).still hb)
  by_cases hok : okO n B s b = true
  · obtain ⟨⟨h0, h1⟩, h2, h3⟩ := okO_iff.1 hok
    obtain ⟨i, rfl⟩ := Int.eq_ofNat_of_zero_le h0
    obtain ⟨l, hl⟩ := HI.out.at_ (i := i) (by omega)
    unfold putT
    rw [if_pos hok, hok, Int.toNat_natCast, hl, Option.getD_some]
    unfold nextL codeB
    by_cases hb : b = -1
    · subst hb
      exact put_any i l hl (by have := hm.out; show _ ≤ _; omega) h
    · rw [if_neg hb]
      have hb2 : 0 ≤ b ∧ b < L.blocks := by rw [HI.out.blocks]; omega
      by_cases hm1 : (-1 : Int) ∈ l
      · rw [if_pos hm1, putS_same hl]
        refine (put_had i l hl b hb2 hm1 h).mono ?_
        rintro e w' ⟨rfl, hb⟩
        exact ⟨rfl, hs w' hb⟩
      · rw [if_neg hm1]
        exact put_ins i l hl b hb2 (by have := hm.out; rw [HI.out.blocks]; show _ ≤ _; omega) (by have := hm.out; show _ ≤ _; omega) hm1 h
  · unfold putT
    rw [if_neg hok, Bool.eq_false_iff.2 hok]
    by_cases ht : 0 ≤ s ∧ s < (n : Int)
    · obtain ⟨i, rfl⟩ := Int.eq_ofNat_of_zero_le ht.1
      obtain ⟨l, hl⟩ := HI.out.at_ (i := i) (by omega)
      have hb : ¬ (-1 ≤ b ∧ b < B) := fun h => hok (okO_iff.2 ⟨ht, h⟩)
      have := HI.out.blocks
      have h0B := hm.out.2.1
      refine (put_err i l hl b (by show _ ∧ _; omega) h).mono ?_
      rintro e w' ⟨rfl, rfl⟩
      exact ⟨rfl, hs _ (Below.refl _ _)⟩
    · refine (put_no s b (by rw [HI.out.len]; exact ht) h).mono ?_
      rintro e w' ⟨rfl, rfl⟩
      exact ⟨rfl, hs _ (Below.refl _ _)⟩
theorem scrub_lg (s : Int) (HI : Hid (LInv n B k L R)) (h : Hid (Sep [lgA x m L] w T)) :
    Calls Try.prog 14 #[.pointer (some ⟨x, 0, none⟩), .int .i64 s] w fun e w' => e = .returned (.int .i64 (codeB (thereB n s))) ∧ Hv w T [lgA x (m + 1) (scrubT n L s)] w' := by
  unfold scrubT
  by_cases ht : thereB n s = true
  · have h0 := thereB_iff.1 ht
    obtain ⟨i, rfl⟩ := Int.eq_ofNat_of_zero_le h0.1
    rw [if_pos ht, ht, Int.toNat_natCast]
    refine (scrub_yes i (by rw [HI.out.len]; show _ < _; omega) h).mono ?_
    rintro e w' ⟨rfl, hv⟩
    exact ⟨rfl, lg_mono (Nat.le_succ _) hv⟩
  · rw [if_neg ht, Bool.eq_false_iff.2 ht]
    refine (scrub_no s (by rw [HI.out.len]; exact fun h => ht (thereB_iff.2 h)) h).mono ?_
    rintro e w' ⟨rfl, rfl⟩
    exact ⟨rfl, lg_mono (Nat.le_succ _) (Hv.start h.out)⟩
theorem put_ref (s b : Int) (hm : Hid (R.length ≤ 1000 ∧ 0 ≤ B)) (h : Hid (Sep [refA r (n : Int) B R] w T)) :
    Calls Try.prog 25 #[.pointer (some ⟨r, 0, none⟩), .int .i64 s, .int .i64 b] w fun e w' => e = .returned (.bool (okO n B s b)) ∧ Hv w T [refA r (n : Int) B (putR n B R s b)] w' := by
  have hlen : R.length ≤ 1000000 := Nat.le_trans hm.out.1 (by decide)
  unfold putR
  by_cases hok : okO n B s b = true
  · obtain ⟨h0, h2, h3⟩ := okO_iff.1 hok
    have ht := thereB_iff.2 h0
    rw [if_pos hok, hok]
    by_cases hb : b = -1
    · subst hb
      rw [if_pos rfl]
      exact rput_any s hlen ht hm.out.2 h
    · rw [if_neg hb]
      have hb2 : 0 ≤ b ∧ b < B := by omega
      by_cases hh : (s, -1) ∈ R ∨ (s, b) ∈ R
      · rw [if_pos hh]
        refine (rput_had s b hlen ht hb2 hh h).mono ?_
        rintro e w' ⟨rfl, rfl⟩
        exact ⟨rfl, Hv.start h.out⟩
      · rw [if_neg hh]
        exact rput_new s b hlen ht hb2 ⟨fun h => hh (.inl h), fun h => hh (.inr h)⟩ h
  · rw [if_neg hok, Bool.eq_false_iff.2 hok]
    by_cases ht : thereB n s = true
    · refine (rput_no2 s b ht (by have : ¬ (-1 ≤ b ∧ b < B) := fun h => hok (okO_iff.2 ⟨thereB_iff.1 ht, h⟩); show _ ∨ _; omega) h).mono ?_
      rintro e w' ⟨rfl, rfl⟩
      exact ⟨rfl, Hv.start h.out⟩
    · refine (rput_no1 s b (Bool.eq_false_iff.2 ht) h).mono ?_
      rintro e w' ⟨rfl, rfl⟩
      exact ⟨rfl, Hv.start h.out⟩
end
end Go.Proofs.Ytieojomabmippaa

/- Sets in memory; the walks of end, may, check. -/
import Derived.Test.YtelkanfmhfopnaaChecked
import Derived.Test.YtelkanfmhfopnaaSet
import Derived.Test.YtelkanfmhfopnaaSep
import Derived.Test.YtelkanfmhfopnaaApp
import Derived.Test.YtelkanfmhfopnaaQb
import Derived.WalkKit
import Derived.WalkSpells
import Derived.WalkLawsBesides
import Derived.Lib.Hide
import Derived.Deep.DeepCutAuto
import Derived.Deep.QuietTactic
import Derived.BigQuiet
import Derived.Laws.ResultCell
import Derived.Deep.RegionHeld3
import Derived.IntWalk
namespace Go.Proofs.Ytelkanfmhfopnaa
open Go.RowKit Go.LawEnd

theorem infoSp : (Try.prog.info? 26).map (fun i => (i.zero, i.size, i.bytes)) = some (some (.agg #[.int .i64 0, .int .i64 0]), 2, 16) := by kernel_rfl
def sps (l : List Sp) : List Value := l.flatMap fun p => [.int .i64 p.1, .int .i64 p.2]
theorem sps_length (l : List Sp) : (sps l).length = l.length * 2 := by
  induction l with
  | nil => rfl
  | cons p l ih => simp only [sps, List.flatMap_cons, List.length_append] at ih ⊢; rw [ih]; simp; omega
theorem sps_get (l : List Sp) (j : Nat) (h : j < l.length) : (sps l)[j * 2]? = some (.int .i64 l[j].1) ∧ (sps l)[j * 2 + 1]? = some (.int .i64 l[j].2) := by
  induction l generalizing j with
  | nil => simp at h
  | cons p l ih =>
    have e : sps (p :: l) = .int .i64 p.1 :: .int .i64 p.2 :: sps l := by simp [sps]
    rw [e]
    cases j with
    | zero => simp
    | succ j =>
      have := ih j (by simpa using h)
      rw [show (j + 1) * 2 = j * 2 + 1 + 1 by omega]
      simpa using this
theorem sps_append (a b : List Sp) : sps (a ++ b) = sps a ++ sps b := by simp [sps]
theorem sps_one (y : Sp) : sps [y] = [.int .i64 y.1, .int .i64 y.2] := rfl
theorem sps_cell (l : List Sp) : ∀ u ∈ sps l, u.oneCell' = true := by
  intro u hu
  simp only [sps, List.mem_flatMap] at hu
  obtain ⟨p, _, hp⟩ := hu
  simp only [List.mem_cons, List.not_mem_nil, or_false] at hp
  rcases hp with rfl | rfl <;> rfl
/-- a set: its head, and the row of its spans -/
abbrev rsA (v : Value) (l : List Sp) : Atom := rowA v 26 2 l.length (sps l)
def setA (s : Nat) (l : List Sp) : Atom := packA fun v : Value => [blkA s 59 #[v], rsA v l, pureA (l = [] → v = .slice none 0 0)]
/-- a slice of spans that can be read -/
def SpArg (w : World) (A : Option Addr) (l : List Sp) : Prop := ∀ k (h : k < l.length), ∃ b off, A = some ⟨b, off, none⟩ ∧ b < w.heap.size ∧ w.cell? ⟨b, off + k * 2, none⟩ = some (.int .i64 l[k].1) ∧ w.cell? ⟨b, off + k * 2 + 1, none⟩ = some (.int .i64 l[k].2)
theorem SpArg.below {w w' : World} {A : Option Addr} {l : List Sp} (h : SpArg w A l) (hb : Below w.heap.size w w') : SpArg w' A l := by
  intro k hk
  obtain ⟨b, off, e, hlt, c0, c1⟩ := h k hk
  exact ⟨b, off, e, by have := hb.size; omega, (hb.cell (p := ⟨b, off + k * 2, none⟩) hlt).trans c0, (hb.cell (p := ⟨b, off + k * 2 + 1, none⟩) hlt).trans c1⟩
theorem SpArg.of_own {w : World} {v : Value} {l : List Sp} (h : w.ownsRow 0 26 2 v l.length (sps l)) : ∃ A c, v = .slice A l.length c ∧ SpArg w A l := by
  rcases h.2 with ⟨rfl, h0⟩ | ⟨g, cap, cur, rfl, _, hh, hnc, _⟩
  · rw [h0]
    refine ⟨none, 0, rfl, fun k hk => ?_⟩
    rw [h0] at hk; cases hk
  · refine ⟨_, cap, rfl, fun k hk => ⟨g, 0, rfl, lt_of_obj hh, ?_, ?_⟩⟩
    · rw [Nat.zero_add, h.cellAt (k * 2) (by have := h.1; omega)]
      exact (sps_get l k hk).1
    · rw [Nat.zero_add, h.cellAt (k * 2 + 1) (by have := h.1; omega)]
      exact (sps_get l k hk).2
theorem app_span {w0 W : World} {S : Nat → Prop} {L : List Atom} {v : Value} {l : List Sp} (h : Hv w0 S (rsA v l :: L) W) (te : TypeId) (hl : l.length ≤ 4000000) (p : Sp) :
    ∃ g cap w', (Builtin.append_ #[22, 22] 22 #[v, .slice (some ⟨W.heap.size, 0, none⟩) 1 1]).run Try.prog (W.alloc (.cells #[.int .i64 p.1, .int .i64 p.2] te)) = .ok (.slice (some ⟨g, 0, none⟩) (l.length + 1) cap) w' ∧
      Hv w0 S (rsA (.slice (some ⟨g, 0, none⟩) (l.length + 1) cap) (l ++ [p]) :: L) w' := by
  obtain ⟨i0, hi0, hz0, hz1, hz2⟩ := info_parts infoSp
  obtain ⟨g, cap, w', h1, h2, _, _⟩ := h.append (P := Try.prog) 22 22 te (i := i0) (bytes := 16) Try.underlying22 hi0 hz0 hz1 hz2 rfl (by omega) 1 (by omega) #[.int .i64 p.1, .int .i64 p.2] rfl (by
    intro u hu
    simp only [List.mem_cons, List.not_mem_nil, or_false] at hu
    rcases hu with rfl | rfl <;> rfl) (by unfold maxLen; omega) (by omega)
  refine ⟨g, cap, w', h1, ?_⟩
  have e1 : (l ++ [p]).length = l.length + 1 := by simp
  unfold rsA
  rw [e1, sps_append]
  exact h2

theorem end_any (x : Sp) (w : World) (h0 : 0 ≤ x.1) (h1 : 0 ≤ x.2) (h2 : x.1 ≤ 4194304) (h3 : x.2 ≤ 4194304) : Calls Try.prog 33 #[.agg #[.int .i64 x.1, .int .i64 x.2]] w fun e w' => e = .returned (.int .i64 (en x)) ∧ Below w.heap.size w w' := by
  obtain ⟨a, b⟩ := x
  simp only [] at h0 h1 h2 h3
  have HB := Lib.hid ((Below.refl w.heap.size w).alloc (Nat.le_refl _) (.cells #[.int .i64 a, .int .i64 b] 26))
  go_enter Try.func33, Try.ntmps33
  go_wp2
  go_ret
  exact ⟨rfl, HB.out⟩
theorem end_at (a b : Int) (w : World) (h0 : 0 ≤ a) (h1 : 0 ≤ b) (h2 : a ≤ 4194304) (h3 : b ≤ 4194304) : Calls Try.prog 33 #[.agg #[.int .i64 a, .int .i64 b]] w fun e w' => e = .returned (.int .i64 (a + b)) ∧ Below w.heap.size w w' := end_any (a, b) w h0 h1 h2 h3
/-- may a span be? -/
def mayB (x : Sp) : Bool := decide (0 ≤ x.1) && decide (0 ≤ x.2) && decide (x.2 ≤ 1048576) && decide (x.1 ≤ 1048576 - x.2)
theorem mayB_iff (x : Sp) : mayB x = true ↔ May x := by
  unfold mayB May en
  simp only [Bool.and_eq_true, decide_eq_true_eq]
  omega
theorem may_any (x : Sp) (w : World) (hx1 : -9223372036854775808 ≤ x.2) (hx2 : x.2 ≤ 9223372036854775807) : Calls Try.prog 39 #[.agg #[.int .i64 x.1, .int .i64 x.2]] w fun e w' => e = .returned (.bool (mayB x)) ∧ Below w.heap.size w w' := by
  obtain ⟨a, b⟩ := x
  simp only [] at hx1 hx2
  have HB := Lib.hid ((Below.refl w.heap.size w).alloc (Nat.le_refl _) (.cells #[.int .i64 a, .int .i64 b] 26))
  by_cases h0 : 0 ≤ a
  · have b0 : decide (0 ≤ a) = true := decide_eq_true h0
    by_cases h1 : 0 ≤ b
    · have b1 : decide (0 ≤ b) = true := decide_eq_true h1
      by_cases h2 : b ≤ 1048576
      · have b2 : decide (b ≤ 1048576) = true := decide_eq_true h2
        obtain ⟨v, hv⟩ : ∃ v, decide (a ≤ 1048576 - b) = v := ⟨_, rfl⟩
        have HM : Hid (mayB (a, b) = v) := by show _ = _; unfold mayB; rw [b0, b1, b2, hv]; rfl
        go_enter Try.func39, Try.ntmps39
        go_wp2
        go_ret
        rw [HM.out]
        exact ⟨rfl, HB.out⟩
      · have b2 : decide (b ≤ 1048576) = false := decide_eq_false h2
        have HM : Hid (mayB (a, b) = false) := by show _ = _; unfold mayB; rw [b0, b1, b2]; rfl
        go_enter Try.func39, Try.ntmps39
        go_wp2
        go_ret
        rw [HM.out]
        exact ⟨rfl, HB.out⟩
    · have b1 : decide (0 ≤ b) = false := decide_eq_false h1
      have HM : Hid (mayB (a, b) = false) := by show _ = _; unfold mayB; rw [b0, b1]; rfl
      go_enter Try.func39, Try.ntmps39
      go_wp2
      go_ret
      rw [HM.out]
      exact ⟨rfl, HB.out⟩
  · have b0 : decide (0 ≤ a) = false := decide_eq_false h0
    have HM : Hid (mayB (a, b) = false) := by show _ = _; unfold mayB; rw [b0]; rfl
    go_enter Try.func39, Try.ntmps39
    go_wp2
    go_ret
    rw [HM.out]
    exact ⟨rfl, HB.out⟩
theorem check_nil (x : Sp) (w : World) : Calls Try.prog 30 #[.pointer none, .agg #[.int .i64 x.1, .int .i64 x.2]] w fun e w' => e = .returned (.int .i64 2) ∧ Below w.heap.size w w' := by
  have HB := Lib.hid ((Below.refl w.heap.size w).alloc (Nat.le_refl _) (.cells #[.int .i64 x.1, .int .i64 x.2] 26))
  go_enter Try.func30, Try.ntmps30
  go_wp2
  go_ret
  exact ⟨rfl, HB.out⟩
theorem check_any (s : Nat) (x : Sp) (w : World) (hx1 : -9223372036854775808 ≤ x.2) (hx2 : x.2 ≤ 9223372036854775807) : Calls Try.prog 30 #[.pointer (some ⟨s, 0, none⟩), .agg #[.int .i64 x.1, .int .i64 x.2]] w fun e w' => e = .returned (.int .i64 (if mayB x = true then 0 else 10)) ∧ Below w.heap.size w w' := by
  have hB := (Below.refl w.heap.size w).alloc (Nat.le_refl _) (.cells #[.int .i64 x.1, .int .i64 x.2] 26)
  have HB := Lib.hid hB
  clear hB
  cases hm : mayB x
  all_goals
    have HM := Lib.hid hm
    clear hm
    go_enter Try.func30, Try.ntmps30
    go_wp2_with fail
    refine (may_any x _ hx1 hx2).mono ?_
    rintro e w1 ⟨rfl, hb1⟩
    rw [HM.out]
    have HB1 := Lib.hid (HB.out.trans (hb1.mono HB.out.size))
    clear hb1
    go_wp2
    go_ret
    exact ⟨by simp, HB1.out⟩
end Go.Proofs.Ytelkanfmhfopnaa

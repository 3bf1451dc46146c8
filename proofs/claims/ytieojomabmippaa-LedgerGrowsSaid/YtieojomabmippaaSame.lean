/- EqualFunc and Same. -/
import Derived.Test.YtieojomabmippaaCopy
import Derived.Test.YtieojomabmippaaEqm
namespace Go.Proofs.Ytieojomabmippaa
open Go.RowKit Go.LawEnd

/-- a slice of sets that can be read -/
def SetRow (w : World) (A : Option Addr) (m : Nat) (Ss : List (List Int)) : Prop := ∀ k (h : k < Ss.length), ∃ g b, A = some ⟨g, 0, none⟩ ∧ w.cell? ⟨g, k, none⟩ = some (.map (some b)) ∧ SetW w b m Ss[k]
theorem SetRow.below {w w' : World} {A : Option Addr} {m : Nat} {Ss : List (List Int)} (h : SetRow w A m Ss) (hb : Below w.heap.size w w') : SetRow w' A m Ss := by
  intro k hk
  obtain ⟨g, b, e, hc, hs⟩ := h k hk
  exact ⟨g, b, e, (hb.cell (p := ⟨g, k, none⟩) (block_lt hc)).trans hc, hs.of_block (hb.block b hs.lt)⟩
theorem lg_row {w : World} {T : Nat → Prop} {R : List Atom} {x m : Nat} {L : Lg} (h : Sep (lgA x m L :: R) w T) : ∃ A c, w.cell? ⟨x, 0, none⟩ = some (.int .i64 L.blocks) ∧ w.cell? ⟨x, 1, none⟩ = some (.slice A L.sets.length c) ∧ SetRow w A m L.sets := by
  obtain ⟨A, c, bs, k0, k1, k2, _⟩ := lg_cells (Hv.start h)
  refine ⟨A, c, k0, k1, fun k hk => ?_⟩
  obtain ⟨g, b, e, hc, _, hs⟩ := k2 k hk
  exact ⟨g, b, e, hc, hs⟩
set_option maxHeartbeats 3200000 in
theorem equalFunc_any (A1 A2 : Option Addr) (c1 c2 m1 m2 : Nat) (a b : List (List Int)) (w : World) (ha : Hid (SetRow w A1 m1 a)) (hb : Hid (SetRow w A2 m2 b)) (la : a.length ≤ 2000000) :
    Calls Try.prog 29 #[.slice A1 a.length c1, .slice A2 b.length c2, .func (.func 30) #[] #[]] w fun e w' => e = .returned (.bool (decide (a = b))) ∧ Below w.heap.size w w' := by
  by_cases hl : a.length = b.length
  · go_enter Try.func29, Try.ntmps29
    rw [← hl]
    have HLL := Lib.hid hl
    clear hl
    go_wp2_with fail
    go_loopw [17] (fun i wr => ∃ k : Nat, k ≤ a.length ∧ i = .int .i64 k ∧ Hid (a.take k = b.take k) ∧ Hid (Below w.heap.size w wr)) (fun i _ => a.length - (vInt i).toNat)
    case atStart => exact ⟨0, by omega, rfl, rfl, Below.refl _ _⟩
    case round =>
      obtain ⟨k, hk, rfl, HT, HB⟩ := hrel
      by_cases hkl : k < a.length
      · obtain ⟨g1, b1, rfl, q1, hs1⟩ := (ha.out.below HB.out) k hkl
        obtain ⟨g2, b2, rfl, q2, hs2⟩ := (hb.out.below HB.out) k (by have := HLL.out; omega)
        have HS1 := Lib.hid hs1
        have HS2 := Lib.hid hs2
        clear hs1 hs2
        go_wp2_with fail
        refine (mapsEqual_any HS1.out HS2.out).mono ?_
        rintro e W2 ⟨rfl, hb2⟩
        have HB2 := Lib.hid (HB.out.trans (hb2.mono HB.out.size))
        clear hb2
        by_cases hxy : a[k] = b[k]'(by have := HLL.out; omega)
        · have HT2 : Hid (a.take (k + 1) = b.take (k + 1)) := by
            show _ = _
            rw [List.take_succ_eq_append_getElem hkl, List.take_succ_eq_append_getElem (by have := HLL.out; omega), HT.out, hxy]
          rw [decide_eq_true hxy]
          clear hxy
          go_wp2
          go_roundw
          case rel => exact ⟨k + 1, by omega, by go_num, HT2, HB2⟩
          case measure => simp [vInt]; omega
        · have hab : decide (a = b) = false := by
            rw [decide_eq_false_iff_not]
            intro e
            apply hxy
            simp only [e]
          rw [decide_eq_false hxy]
          clear hxy
          go_wp2
          go_ret
          rw [hab]
          exact ⟨rfl, HB2.out⟩
      · have HAB : Hid (a = b) := by
          show a = b
          have h1 := HT.out
          rw [List.take_of_length_le (by omega), List.take_of_length_le (by have := HLL.out; omega)] at h1
          exact h1
        go_wp2
        go_ret
        rw [decide_eq_true HAB.out]
        exact ⟨rfl, HB.out⟩
  · have hab : ¬ a = b := fun e => hl (by rw [e])
    have hl3 : ¬ (a.length : Int) = (b.length : Int) := by omega
    go_enter Try.func29, Try.ntmps29
    go_wp2
    go_ret
    rw [decide_eq_false hab]
    exact ⟨rfl, Below.refl _ _⟩
set_option maxHeartbeats 3200000 in
theorem same_any {T : Nat → Prop} (s1 s2 m1 m2 : Nat) (X Y : Lg) (w : World) (h : Hid (Sep [lgA s1 m1 X, lgA s2 m2 Y] w T)) (hl : Hid (X.sets.length ≤ 2000000)) (hbl : Hid (X.blocks = Y.blocks)) :
    Calls Try.prog 12 #[.pointer (some ⟨s1, 0, none⟩), .pointer (some ⟨s2, 0, none⟩)] w fun e w' => e = .returned (.bool (decide (X.sets = Y.sets))) ∧ Below w.heap.size w w' := by
  obtain ⟨A1, c1, p0, p1, hr1⟩ := lg_row h.out
  obtain ⟨A2, c2, r0, r1, hr2⟩ := lg_row (h.out.perm (List.Perm.swap ..))
  have HR1 := Lib.hid hr1
  have HR2 := Lib.hid hr2
  have l1 := block_lt p0
  have l2 := block_lt r0
  rw [← hbl.out] at r0
  obtain ⟨bl, hbb⟩ : ∃ y, y = X.blocks := ⟨_, rfl⟩
  rw [← hbb] at r0 p0
  have k0 : ∀ q : ExtB w.heap.size w, q.w.cell? ⟨s1, 0, none⟩ = some (.int .i64 bl) := fun q => (q.below.cell (p := ⟨s1, 0, none⟩) l1).trans p0
  have k1 : ∀ q : ExtB w.heap.size w, q.w.cell? ⟨s1, 1, none⟩ = some (.slice A1 X.sets.length c1) := fun q => (q.below.cell (p := ⟨s1, 1, none⟩) l1).trans p1
  have k2 : ∀ q : ExtB w.heap.size w, q.w.cell? ⟨s2, 0, none⟩ = some (.int .i64 bl) := fun q => (q.below.cell (p := ⟨s2, 0, none⟩) l2).trans r0
  have k3 : ∀ q : ExtB w.heap.size w, q.w.cell? ⟨s2, 1, none⟩ = some (.slice A2 Y.sets.length c2) := fun q => (q.below.cell (p := ⟨s2, 1, none⟩) l2).trans r1
  clear hr1 hr2 hbb p0 p1 r0 r1
  go_enter Try.func12, Try.ntmps12
  go_wp2_with fail
  refine wp_region_quiet_below (by kernel_rfl) (by kernel_rfl) ?_
  repeat (go_big_quiet_step ((go_at_call 29; exact calls_ext (Nat.le_refl _) _ (equalFunc_any A1 A2 c1 c2 m1 m2 X.sets Y.sets _ (HR1.out.below (ExtB.below _)) (HR2.out.below (ExtB.below _)) hl.out))))
  refine wpQuiet_nil ?_
  intro W2 hw2
  obtain ⟨q, hq⟩ := hw2
  have hb2 := q.below
  rw [← hq] at hb2
  clear hq q k0 k1 k2 k3
  go_wp2
  go_ret
  exact ⟨rfl, hb2⟩
end Go.Proofs.Ytieojomabmippaa

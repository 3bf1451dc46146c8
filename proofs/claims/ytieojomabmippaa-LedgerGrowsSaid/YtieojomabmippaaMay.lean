/- Owners of no slot; inside; May. -/
import Derived.Test.YtieojomabmippaaOwn
import Derived.Maps.Ext
import Derived.Maps.RangeWalk
import Derived.OpenShut
namespace Go.Proofs.Ytieojomabmippaa
open Go.RowKit Go.LawEnd

section
variable {T : Nat → Prop} {x m : Nat} {L : Lg} {w : World} {R : List Atom}
theorem owners_no (s : Int) (hs : Hid (¬ (0 ≤ s ∧ s < (L.sets.length : Int)))) (h : Hid (Sep (lgA x m L :: R) w T)) : Calls Try.prog 21 #[.pointer (some ⟨x, 0, none⟩), .int .i64 s] w fun e w' => e = .returned (.tuple #[.slice none 0 0, .int .i64 10]) ∧ w = w' := by
  go_enter Try.func21, Try.ntmps21
  go_wp2_with fail
  refine (of_no s hs h).mono ?_
  rintro e w2 ⟨rfl, rfl⟩
  go_wp2
  go_ret2
  exact ⟨rfl, rfl⟩
end
theorem grown_below {w w' : World} (h : w.grownBy w' none) : Below w.heap.size w w' := ⟨h.os, h.tape, h.output, h.size, fun k hk => h.block k hk (by simp)⟩
abbrev spanV (f n : Int) : Value := .agg #[.int .i64 f, .int .i64 n]
def inB (b f n : Int) : Bool := decide (f ≤ b) && decide (b - f < n)
theorem inside_pos (b f n : Int) (w : World) (hb : (Lit.int .i64 b).wf = true) (h0 : 0 ≤ f) (hf : f ≤ 1000000) : Calls Try.prog 31 #[.int .i64 b, spanV f n] w fun e w' => e = .returned (.bool (inB b f n)) ∧ Below w.heap.size w w' := by
  have hb' := bounds_i64 hb
  clear hb
  have d0 : decide (f < 0) = false := decide_eq_false (by omega)
  have d0' : ¬ f < 0 := by omega
  by_cases h1 : f ≤ b
  · have d1 : decide (f ≤ b) = true := decide_eq_true h1
    have hw : wrap64 (b - f) = b - f := by unfold wrap64; omega
    by_cases h2 : b - f < n
    · have d2 : decide (b - f < n) = true := decide_eq_true h2
      have HE : Hid (inB b f n = true) := by show _ = _; unfold inB; rw [d1, d2]; rfl
      rw [HE.out]
      go_enter Try.func31, Try.ntmps31
      go_wp2
      go_ret
      exact ⟨rfl, (Below.refl _ w).alloc (Nat.le_refl _) _⟩
    · have d2 : decide (b - f < n) = false := decide_eq_false h2
      have HE : Hid (inB b f n = false) := by show _ = _; unfold inB; rw [d1, d2]; rfl
      rw [HE.out]
      go_enter Try.func31, Try.ntmps31
      go_wp2
      go_ret
      exact ⟨rfl, (Below.refl _ w).alloc (Nat.le_refl _) _⟩
  · have d1 : decide (f ≤ b) = false := decide_eq_false h1
    have HE : Hid (inB b f n = false) := by show _ = _; unfold inB; rw [d1]; rfl
    rw [HE.out]
    go_enter Try.func31, Try.ntmps31
    go_wp2
    go_ret
    exact ⟨rfl, (Below.refl _ w).alloc (Nat.le_refl _) _⟩
def hitB (b f n : Int) : Bool := (b == -1) || inB b f n
def mayL (l : List Int) (f n : Int) : Bool := l.any fun b => hitB b f n
theorem may_nil (s f n : Int) (w : World) : Calls Try.prog 13 #[.pointer none, .int .i64 s, spanV f n] w fun e w' => e = .returned (.bool false) ∧ Below w.heap.size w w' := by
  go_enter Try.func13, Try.ntmps13
  go_wp2_with fail
  refine (of_nil s _).mono ?_
  rintro e w2 ⟨rfl, rfl⟩
  go_wp2
  go_ret
  exact ⟨rfl, (Below.refl _ w).alloc (Nat.le_refl _) _⟩
def Left (left : Lit → Bool) (l : List Int) (f n : Int) : Prop := (∀ x, left (.int .i64 x) = true → x ∈ l) ∧ ∀ x ∈ l, left (.int .i64 x) = false → hitB x f n = false
section
variable {T : Nat → Prop} {x m : Nat} {L : Lg} {w : World} {R : List Atom}
set_option maxRecDepth 100000 in
set_option maxHeartbeats 3200000 in
theorem may_yes (i : Nat) (l : List Int) (f n : Int) (hl : Hid (L.sets[i]? = some l)) (h0 : 0 ≤ f) (hf : f ≤ 1000000) (hn : 1 ≤ n) (h : Hid (Sep (lgA x m L :: R) w T)) :
    Calls Try.prog 13 #[.pointer (some ⟨x, 0, none⟩), .int .i64 (i : Int), spanV f n] w fun e w' => e = .returned (.bool (mayL l f n)) ∧ Below w.heap.size w w' := by
  obtain ⟨A, c, bs, k0, k1, k2, _⟩ := lg_cells (Hv.start h.out)
  obtain ⟨hi, hl2⟩ := List.getElem?_eq_some_iff.1 hl.out
  obtain ⟨g, sb, rfl, k3, _, hs⟩ := k2 i hi
  rw [hl2] at hs
  obtain ⟨⟨D, ho, _, hh⟩, _, hwf⟩ := hs
  obtain ⟨M, hM⟩ : ∃ y, y = mayL l f n := ⟨_, rfl⟩
  rw [← hM]
  have HM := Lib.hid hM
  have HH := Lib.hid hh
  have HO := Lib.hid ho
  have HW := Lib.hid hwf
  have hxl : x < w.heap.size := block_lt k1
  have hgl : g < w.heap.size := block_lt k3
  have hsl : sb < w.heap.size := ho.lt
  have dn : decide (n < 1) = false := decide_eq_false (by omega)
  clear k2 hl h hl2 hM hh ho hwf k0
  obtain ⟨W, hW⟩ : ∃ W, W = w.alloc (.cells #[.int .i64 f, .int .i64 n] 35) := ⟨_, rfl⟩
  have hbW : Below w.heap.size w W := by rw [hW]; exact (Below.refl _ w).alloc (Nat.le_refl _) _
  have k1' := (hbW.cell (p := ⟨x, 1, none⟩) hxl).trans k1
  have k3' := (hbW.cell (p := ⟨g, i, none⟩) hgl).trans k3
  have HO2 : Hid (W.ownsMap Try.prog 3 unitElem sb m D) := ownsMap_of_block HO.out (hbW.block sb hsl)
  have c0 : W.cell? ⟨w.heap.size, 0, none⟩ = some (.int .i64 f) := by rw [hW]; simp
  have c1 : W.cell? ⟨w.heap.size, 1, none⟩ = some (.int .i64 n) := by rw [hW]; simp
  have hBW : w.heap.size < W.heap.size := block_lt c0
  have HB := Lib.hid hbW
  go_enter Try.func13, Try.ntmps13
  go_wp2_with fail
  rw [← hW]
  clear hW hbW k1 k3
  refine (of_yes i hi k1' k3').mono ?_
  rintro e w3 ⟨rfl, rfl⟩
  clear k1' k3'
  go_wp2_with (first
    | (at_range; refine wpList_range_own _ rfl _ 65 rfl 3 67 keyLaw Try.underlying65 unitElem sb m _ rfl HO2.out ?_; intro w0 hrg0 hg0 hs0)
    | fail)
  go_frame
  go_loopw [9] (fun _ wr => ∃ (left : Lit → Bool) (cnt : Nat), wr.ranges Try.prog 3 unitElem sb W.heap.size m D left cnt ∧ W.grownBy wr none ∧ Hid (Left left l f n)) (fun _ wr => wr.rangeLeft sb W.heap.size)
  case atStart => exact ⟨_, _, hrg0, hg0, ⟨fun y hy => by rw [HH.out y] at hy; exact of_decide_eq_true hy, fun y hy h2 => by rw [HH.out y, decide_eq_true hy] at h2; cases h2⟩⟩
  case round =>
    clear hrg0 hg0 hs0
    obtain ⟨left, cnt, hrg, hgw, G⟩ := hrel
    go_wp2_with (first
      | (at_next; refine wpList_next_ranges _ rfl _ rfl 3 keyLaw unitElem (Value.int .i64) (fun _ : Unit => Value.agg #[]) (fun key kl hkey => by obtain ⟨x, rfl, _⟩ := Maps.keyOf_int_inv Try.underlying3 hkey; exact ⟨x, rfl⟩) (fun v y hv => ⟨(), (unitElem_inv hv).1⟩) sb W.heap.size m _ _ _ rfl hrg ?_ ?_)
      | fail)
    · intro _ hl0
      have HE : Hid (M = false) := by
        show _ = _
        rw [HM.out]
        unfold mayL
        exact List.any_eq_false.2 fun y hy => by rw [G.out.2 y hy (hl0 _)]; simp
      go_wp2
      go_ret
      exact ⟨by rw [HE.out]; rfl, HB.out.trans ((grown_below hgw).mono HB.out.size)⟩
    · intro y _ kl z w1 cnt1 hkey hlx hv hat hrg1 hlt hg1 hs1 hen
      obtain ⟨y', ey, rfl, hy⟩ := Maps.keyOf_int_inv Try.underlying3 hkey
      cases ey
      clear hv hat
      have hgw1 : W.grownBy w1 none := hgw.andThen hg1 (fun j hj => by cases hj; exact Or.inl (Nat.le_refl _))
      have d0 := (hgw1.block w.heap.size hBW (by simp))
      have c0' := (World.cell?_of_block (a := ⟨w.heap.size, 0, none⟩) d0).trans c0
      have c1' := (World.cell?_of_block (a := ⟨w.heap.size, 1, none⟩) d0).trans c1
      have hyl : y ∈ l := G.out.1 y hlx
      have HY := Lib.hid hyl
      have HLE := Lib.hid hrg.left_eq
      clear hrg d0 hyl hlx
      cases b1 : (y == -1)
      · have hne : ¬ y = -1 := by simpa using b1
        have HI : Hid (hitB y f n = inB y f n) := by show _ = _; unfold hitB; rw [b1]; rfl
        go_wp2_with fail
        refine (inside_pos y f n w1 hy h0 hf).mono ?_
        rintro e w2 ⟨rfl, hb2⟩
        have hg2 : w1.grownBy w2 none := ⟨hb2.os, hb2.tape, hb2.output, hb2.size, fun k hk _ => hb2.block k hk⟩
        cases hI : inB y f n
        · have G2 : Hid (Left (fun z => left z && !z.sameKey (.int .i64 y)) l f n) := by
            refine ⟨fun u hu => G.out.1 u (by simp only [Bool.and_eq_true] at hu; exact hu.1), fun u hu h2 => ?_⟩
            by_cases e : u = y
            · subst e; rw [HI.out, hI]
            · refine G.out.2 u hu ?_
              have h3 : (left (.int .i64 u) && !(Lit.int .i64 u).sameKey (.int .i64 y)) = false := h2
              rw [Maps.sameKey_ne (show Lit.int .i64 u ≠ .int .i64 y from by simpa using e)] at h3
              simpa using h3
          have hrg2 := hrg1.kept hg2 (by simp) (by simp)
          go_wp2
          go_roundw
          case rel => exact ⟨_, cnt1, hrg2, hgw1.andThen hg2 (fun j hj => by cases hj), G2⟩
          case measure => rw [hrg2.left_eq, HLE.out]; exact hlt
        · have HE : Hid (M = true) := by
            show _ = _
            rw [HM.out]
            unfold mayL
            exact List.any_eq_true.2 ⟨y, HY.out, by rw [HI.out, hI]⟩
          go_wp2
          go_ret
          exact ⟨by rw [HE.out]; rfl, HB.out.trans (((grown_below hgw1).mono HB.out.size).trans (hb2.mono (Nat.le_trans HB.out.size hgw1.size)))⟩
      · have he : y = -1 := by simpa using b1
        have HE : Hid (M = true) := by
          show _ = _
          rw [HM.out]
          unfold mayL
          exact List.any_eq_true.2 ⟨y, HY.out, by unfold hitB; rw [b1]; rfl⟩
        go_wp2
        go_ret
        exact ⟨by rw [HE.out]; rfl, HB.out.trans ((grown_below hgw1).mono HB.out.size)⟩
end
end Go.Proofs.Ytieojomabmippaa

/- maps.Equal of two sets. -/
import Derived.Test.YtieojomabmippaaMay
namespace Go.Proofs.Ytieojomabmippaa
open Go.RowKit Go.LawEnd Go.Shelf Go.Maps

theorem set_size {w : World} {b n : Nat} {D : DataW Unit} {l : List Int} (ho : w.ownsMap Try.prog 3 unitElem b n D) (hh : ∀ x, has D (.int .i64 x) = decide (x ∈ l)) (hl : l.Pairwise (· < ·)) : Maps.size D = l.length := by
  have h1 : CollectedI D (fun _ => false) l := ⟨hl.imp fun {a b} h e => by omega, fun x => by rw [hh x]; simp⟩
  have h2 := (h1.perm ho keyLaw Try.underlying3 (fun _ => rfl)).length_eq
  obtain ⟨es, rfl⟩ := ho.isMap
  rw [h2]
  simp [Maps.size, intKeys]
theorem sorted_sub : ∀ {b a : List Int}, a.Pairwise (· < ·) → b.Pairwise (· < ·) → (∀ x ∈ a, x ∈ b) → a.Sublist b
  | [], [], _, _, _ => List.Sublist.refl _
  | [], x :: _, _, _, h => absurd (h x (by simp)) (by simp)
  | y :: b, [], _, _, _ => List.nil_sublist _
  | y :: b, x :: a, ha, hb, h => by
    obtain ⟨h1, h2⟩ := List.pairwise_cons.1 ha
    obtain ⟨h3, h4⟩ := List.pairwise_cons.1 hb
    by_cases hxy : x = y
    · subst hxy
      exact (sorted_sub h2 h4 fun z hz => (List.mem_cons.1 (h z (by simp [hz]))).resolve_left (by have := h1 z hz; omega)).cons_cons _
    · have hx : x ∈ b := (List.mem_cons.1 (h x (by simp))).resolve_left hxy
      have h5 := h3 x hx
      refine (sorted_sub ha h4 fun z hz => (List.mem_cons.1 (h z hz)).resolve_left ?_).cons _
      rcases List.mem_cons.1 hz with rfl | hz
      · exact hxy
      · have := h1 z hz; omega
theorem sorted_eq {a b : List Int} (ha : a.Pairwise (· < ·)) (hb : b.Pairwise (· < ·)) (hl : a.length = b.length) (hs : ∀ x ∈ a, x ∈ b) : a = b := (sorted_sub ha hb hs).eq_of_length hl
def Pass (left : Lit → Bool) (l l2 : List Int) : Prop := (∀ x, left (.int .i64 x) = true → x ∈ l) ∧ ∀ x ∈ l, left (.int .i64 x) = false → x ∈ l2
set_option maxRecDepth 100000 in
theorem neq_unit (w : World) : (binOp BinOp.neq 67 (.agg #[]) (.agg #[])).run Try.prog w = .ok (.bool false) w := by
  rw [run_neq_struct, show (10000 : Nat) = 9999 + 1 from rfl, run_equalIn_struct w 9999 _ _ _ (by kernel_rfl) (by kernel_rfl)]
  rfl
set_option maxRecDepth 100000 in
set_option maxHeartbeats 3200000 in
theorem mapsEqual_any {w : World} {b1 b2 m1 m2 : Nat} {l1 l2 : List Int} (h1 : SetW w b1 m1 l1) (h2 : SetW w b2 m2 l2) :
    Calls Try.prog 30 #[.map (some b1), .map (some b2)] w fun e w' => e = .returned (.bool (decide (l1 = l2))) ∧ Below w.heap.size w w' := by
  obtain ⟨⟨D1, o1, i1, hh1⟩, s1, wf1⟩ := h1
  obtain ⟨⟨D2, o2, i2, hh2⟩, s2, wf2⟩ := h2
  obtain ⟨M, hM⟩ : ∃ y, y = decide (l1 = l2) := ⟨_, rfl⟩
  rw [← hM]
  have HM := Lib.hid hM
  have len1 := fun ty => o1.len (t := 65) Try.underlying65 ty
  have len2 := fun ty => o2.len (t := 65) Try.underlying65 ty
  have HZ1 := Lib.hid (set_size o1 hh1 s1)
  have HZ2 := Lib.hid (set_size o2 hh2 s2)
  have HH1 := Lib.hid hh1
  have HS2 : Hid (SetW w b2 m2 l2) := ⟨⟨D2, o2, i2, hh2⟩, s2, wf2⟩
  have HS1 := Lib.hid s1
  have hb1 : b1 < w.heap.size := o1.lt
  have hnu := neq_unit
  have HB0 := Lib.hid (Below.refl w.heap.size w)
  have HO := Lib.hid o1
  obtain ⟨z1, hz1⟩ : ∃ z, z = Maps.size D1 := ⟨_, rfl⟩
  obtain ⟨z2, hz2⟩ : ∃ z, z = Maps.size D2 := ⟨_, rfl⟩
  rw [← hz1] at len1 HZ1
  rw [← hz2] at len2 HZ2
  clear hM hh1 hh2 wf1 wf2 o1 o2 i1 i2 s1 s2 hz1 hz2
  by_cases hz : z1 = z2
  · subst hz
    go_enter Try.func30, Try.ntmps30
    go_wp2_with (first
      | (at_range; refine wpList_range_own _ rfl _ 65 rfl 3 67 keyLaw Try.underlying65 unitElem b1 m1 _ rfl HO.out ?_; intro w0 hrg0 hg0 hs0)
      | fail)
    go_frame
    go_loopw [5] (fun _ wr => ∃ (left : Lit → Bool) (cnt : Nat), wr.ranges Try.prog 3 unitElem b1 w.heap.size m1 D1 left cnt ∧ w.grownBy wr none ∧ Hid (Pass left l1 l2)) (fun _ wr => wr.rangeLeft b1 w.heap.size)
    case atStart => exact ⟨_, _, hrg0, hg0, ⟨fun y hy => by rw [HH1.out y] at hy; exact of_decide_eq_true hy, fun y hy h2 => by rw [HH1.out y, decide_eq_true hy] at h2; cases h2⟩⟩
    case round =>
      clear hrg0 hg0 hs0
      obtain ⟨left, cnt, hrg, hgw, G⟩ := hrel
      go_wp2_with (first
        | (at_next; refine wpList_next_ranges _ rfl _ rfl 3 keyLaw unitElem (Value.int .i64) (fun _ : Unit => Value.agg #[]) (fun key kl hkey => by obtain ⟨x, rfl, _⟩ := Maps.keyOf_int_inv Try.underlying3 hkey; exact ⟨x, rfl⟩) (fun v y hv => ⟨(), (unitElem_inv hv).1⟩) b1 w.heap.size m1 _ _ _ rfl hrg ?_ ?_)
        | fail)
      · intro _ hl0
        have HE : Hid (M = true) := by
          show _ = _
          rw [HM.out]
          exact decide_eq_true (sorted_eq HS1.out HS2.out.2.1 (by rw [← HZ1.out, ← HZ2.out]) (fun x hx => G.out.2 x hx (hl0 _)))
        go_wp2
        go_ret
        exact ⟨by rw [HE.out]; rfl, grown_below hgw⟩
      · intro y _ kl z w1 cnt1 hkey hlx hv hat hrg1 hlt hg1 hs1 hen
        obtain ⟨y', ey, rfl, hy⟩ := Maps.keyOf_int_inv Try.underlying3 hkey
        cases ey
        clear hv hat
        have hgw1 : w.grownBy w1 none := hgw.andThen hg1 (fun j hj => by cases hj; exact Or.inl (Nat.le_refl _))
        have HB := Lib.hid (grown_below hgw1)
        have hyl : y ∈ l1 := G.out.1 y hlx
        have HY := Lib.hid hyl
        have HLE := Lib.hid hrg.left_eq
        have HL : Hid (∀ W, Below w.heap.size w W → (Instr.lookup 65 (.map (some b2)) (.int .i64 y) true).run Try.prog W = .ok (.tuple #[.agg #[], .bool (decide (y ∈ l2))]) W) := fun W hW =>
          SetAt.run_look (HS2.out.of_block (hW.block b2 HS2.out.lt)) keyLaw Try.underlying65 Try.underlying3 zeroUnit hy
        have hlo := HL.out ((w1.alloc (.cells #[] 67))) (HB.out.alloc HB.out.size _)
        clear hrg hyl hlx
        cases hy2 : decide (y ∈ l2)
        · have HE : Hid (M = false) := by
            show _ = _
            rw [HM.out]
            refine decide_eq_false fun e => of_decide_eq_false hy2 ?_
            rw [← e]; exact HY.out
          rw [hy2] at hlo
          have HB2 := Lib.hid ((HB.out.alloc HB.out.size (.cells #[] 67)).alloc (by have := HB.out.size; simp; omega) (.cells #[] 67))
          go_wp2_with fail
          go_ret
          exact ⟨by rw [HE.out]; rfl, HB2.out⟩
        · have G2 : Hid (Pass (fun z => left z && !z.sameKey (.int .i64 y)) l1 l2) := by
            refine ⟨fun u hu => G.out.1 u (by simp only [Bool.and_eq_true] at hu; exact hu.1), fun u hu h2 => ?_⟩
            by_cases e : u = y
            · subst e; exact of_decide_eq_true hy2
            · refine G.out.2 u hu ?_
              have h3 : (left (.int .i64 u) && !(Lit.int .i64 u).sameKey (.int .i64 y)) = false := h2
              rw [Maps.sameKey_ne (show Lit.int .i64 u ≠ .int .i64 y from by simpa using e)] at h3
              simpa using h3
          rw [hy2] at hlo
          have hg2 : w1.grownBy ((w1.alloc (.cells #[] 67)).alloc (.cells #[] 67)) none := (World.grownBy_alloc w1 _ none).andThen (World.grownBy_alloc _ _ none) (fun j hj => by cases hj)
          have hrg2 := hrg1.kept hg2 (by simp) (by simp)
          have HRG := Lib.hid hrg2
          have HGW := Lib.hid (hgw1.andThen hg2 (fun j hj => by cases hj))
          clear hg2 hrg2 hrg1 hgw1 hg1 hgw
          go_wp2_with fail
          go_roundw
          case rel => exact ⟨_, cnt1, HRG.out, HGW.out, G2⟩
          case measure => rw [HRG.out.left_eq, HLE.out]; exact hlt
  · have hzne : ¬ (z1 : Int) = (z2 : Int) := by omega
    have HE : Hid (M = false) := by
      show _ = _
      rw [HM.out]
      refine decide_eq_false fun e => hz ?_
      rw [HZ1.out, HZ2.out, e]
    go_enter Try.func30, Try.ntmps30
    go_wp2
    go_ret
    exact ⟨by rw [HE.out]; rfl, HB0.out⟩
end Go.Proofs.Ytieojomabmippaa

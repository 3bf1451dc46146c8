/- The walk of Copy. -/
import Derived.Test.YtofeodhekpnpaaaDrop
import Derived.Test.YtofeodhekpnpaaaLay
namespace Go.Proofs.Ytofeodhekpnpaaa
open Go.RowKit Go.LawEnd

theorem pcs_one (l : List (Int × Bool)) : ∀ u ∈ pcs l, u.oneCell' = true := by
  intro u hu
  simp only [pcs, List.mem_flatMap] at hu
  obtain ⟨p, _, hp⟩ := hu
  simp only [List.mem_cons, List.not_mem_nil, or_false] at hp
  rcases hp with rfl | rfl <;> rfl
section
variable {w : World} {x b n slots : Nat} {g : Rowd} {l : List (Int × Bool)} {f : Int → Option Int}
theorem clonep_any (h : Idx w x g b n l f slots) (hl : l.length ≤ 4096) :
    Calls Try.prog 33 #[.slice (some ⟨g, 0, none⟩) l.length g.cap] w fun e w' => ∃ g' : Rowd, e = .returned (.slice (some ⟨g', 0, none⟩) l.length g'.cap) ∧ Blk w' g' 35 (pcs l ++ g'.tl).toArray ∧ w.heap.size ≤ g'.g ∧ Below w.heap.size w w' := by
  obtain ⟨i0, hi0, hz0, hz1, hz2⟩ := info_parts infoPlace
  have hc := AnyE.slices_Clone cloneP i0 _ 2 16 hi0 hz0 hz1 hz2 rfl (by decide) Try.sizeOf35 g 0 l.length g.cap (pcs l) w (pcs_length l) (by unfold maxLen; omega) (by omega) (fun j u hu => by
    rw [Nat.zero_add, h.row.cell, List.getElem?_toArray]
    have hj : j < (pcs l).length := (List.getElem?_eq_some_iff.1 hu).1
    rw [List.getElem?_append_left hj, hu]) (pcs_one l)
  refine Calls.mono (R := _) hc ?_
  rintro e w' ⟨v', rfl, hown, hnn, hb⟩
  rcases hown.2 with ⟨rfl, _⟩ | ⟨g', cap, cur, rfl, hB, hh, _, _, hs, ht⟩
  · exact absurd rfl hnn
  · refine ⟨⟨g', cap, cur.toList.drop (l.length * 2)⟩, rfl, ?_, hB, hb⟩
    show w'.heap[g']? = _
    rw [hh]
    have : cur = (pcs l ++ cur.toList.drop (l.length * 2)).toArray := by
      rw [← ht, List.take_append_drop, Array.toArray_toList]
    rw [← this]
    rfl
theorem clonem_any (h : Map w b n f) :
    Calls Try.prog 34 #[.map (some b)] w fun e w' => e = .returned (.map (some w.heap.size)) ∧ Map w' w.heap.size n f ∧ Below w.heap.size w w' := by
  obtain ⟨D, ho, hr⟩ := h
  refine (AnyW.maps_Clone_owns cloneM 3 _ b n D w ho).mono ?_
  rintro e w' ⟨rfl, h1, _, hb⟩
  exact ⟨rfl, ⟨D, h1, hr⟩, hb⟩

set_option maxRecDepth 100000 in
set_option maxHeartbeats 1600000 in
theorem copy_any (h : Hid (Idx w x g b n l f slots)) (hl : l.length ≤ 4096) :
    Calls Try.prog 17 #[.pointer (some ⟨x, 0, none⟩)] w fun e w' => ∃ (x' : Nat) (g' : Rowd) (b' : Nat), e = .returned (.pointer (some ⟨x', 0, none⟩)) ∧ Idx w' x' g' b' n l f slots ∧ w.heap.size ≤ x' ∧ w.heap.size ≤ g'.g ∧ w.heap.size ≤ b' ∧ Below w.heap.size w w' := by
  have KEEP : Hid (∀ W : World, Below w.heap.size w W → Below w.heap.size w W ∧ W.cell? ⟨x, 0, none⟩ = some (.slice (some ⟨g, 0, none⟩) l.length g.cap) ∧ W.cell? ⟨x, 1, none⟩ = some (.map (some b)) ∧ W.cell? ⟨x, 2, none⟩ = some (.int .i64 (slots : Int))) := fun W hW => by
    have hk := h.out.head.below hW h.out.head.lt
    exact ⟨hW, by simpa using hk.cell 0, by simpa using hk.cell 1, by simpa using hk.cell 2⟩
  have HB0 : Hid (Below w.heap.size w w.drew) := Below.drew (Below.refl _ _)
  go_enter Try.func17, Try.ntmps17
  go_wp2_with fail
  go_region_held3 (fun W => Below w.heap.size w W ∧ W.cell? ⟨x, 0, none⟩ = some (.slice (some ⟨g, 0, none⟩) l.length g.cap) ∧ W.cell? ⟨x, 1, none⟩ = some (.map (some b)) ∧ W.cell? ⟨x, 2, none⟩ = some (.int .i64 (slots : Int)))
    (first | exact KEEP.out _ (HB2.out.alloc HB2.out.size _) | exact KEEP.out _ HB2.out | exact KEEP.out _ HB1.out | exact KEEP.out _ HB0.out | assumption | fail)
    (first
      | (go_at_call 33; refine (clonep_any (h.out.below HB0.out (Nat.le_refl _)) hl).mono ?_; rintro e w1 ⟨g1, rfl, hr1, hg1, hb1⟩; have HB1 := Lib.hid (HB0.out.trans hb1); have HR1 := Lib.hid hr1; have HG1 := Lib.hid hg1; clear hr1 hg1 hb1)
      | (go_at_call 34; refine (clonem_any (h.out.below HB1.out (Nat.le_refl _)).map).mono ?_; rintro e w2 ⟨rfl, hm2, hb2⟩; have HB2 := Lib.hid (HB1.out.trans (hb2.mono HB1.out.size)); have HR2 := Lib.hid (HR1.out.below hb2 HR1.out.lt); have HM2 := Lib.hid hm2; clear hm2 hb2)
      | fail)
  go_wp2
  go_ret
  have hA := (Below.refl w2.heap.size w2).alloc (Nat.le_refl _) (.cells #[.slice (some ⟨g1, 0, none⟩) l.length g1.cap, .map (some w1.heap.size), .int .i64 (slots : Int)] 62)
  exact ⟨w2.heap.size, g1, w1.heap.size, rfl, ⟨Blk.new _ _ _, HR2.out.below hA HR2.out.lt, HM2.out.below hA HM2.out.lt⟩, HB2.out.size, HG1.out, HB1.out.size, HB2.out.trans (hA.mono HB2.out.size)⟩
end
end Go.Proofs.Ytofeodhekpnpaaa

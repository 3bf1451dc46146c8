/- The document's index: what it is in memory; New, Right. -/
import Derived.Test.YtofeodhekpnpaaaCount
import Derived.Test.YtofeodhekpnpaaaOwns
import Derived.Test.YtofeodhekpnpaaaRd
namespace Go.Proofs.Ytofeodhekpnpaaa
open Go.RowKit Go.LawEnd

theorem infoI : (Try.prog.info? 3).map (fun i => (i.zero, i.size, i.bytes)) = some (some (.int .i64 0), 1, 8) := by kernel_rfl
theorem infoB : (Try.prog.info? 4).map (fun i => (i.zero, i.size, i.bytes)) = some (some (.bool false), 1, 1) := by kernel_rfl
def ints (l : List Int) : List Value := l.map (Value.int .i64)
def bools (l : List Bool) : List Value := l.map Value.bool

/-- the document's index at r -/
structure RI (B : Nat) (w : World) (r k slots : Nat) (vS vD : Value) (sl : List Int) (dl : List Bool) : Prop where
  head : Blk w r 70 #[vS, vD, .int .i64 (slots : Int)]
  rowS : w.ownsRow B 3 1 vS k (ints sl)
  rowD : w.ownsRow B 4 1 vD k (bools dl)
  rB : B ≤ r

section
variable {w w' : World} {B r k slots : Nat} {vS vD : Value} {sl : List Int} {dl : List Bool}
theorem own_obj {e : TypeId} {m size : Nat} {v : Value} {xs : List Value} (h : w.ownsRow B e size v m xs) {b : Nat} (hb : v.ownBlock = some b) : ∃ cur, Blk w b e cur := by
  rcases h.2 with ⟨rfl, _⟩ | ⟨g, cap, cur, rfl, _, hg, _⟩
  · cases hb
  · have : g = b := by simpa [Value.ownBlock] using hb
    subst this
    exact ⟨cur, hg⟩
theorem own_far {e t : TypeId} {m size g : Nat} {v : Value} {xs : List Value} {cs : Array Value} (h : w.ownsRow B e size v m xs) (hk : Blk w g t cs) (ht : e ≠ t) : v.ownBlock = none ∨ v.ownBlock ≠ some g := by
  right
  intro hb
  obtain ⟨cur, hc⟩ := own_obj h hb
  exact Blk.ne_ hc hk ht rfl
theorem own_ap {e t : TypeId} {m n size size' : Nat} {v u : Value} {xs ys : List Value} (h : w.ownsRow B e size v m xs) (h' : w.ownsRow B t size' u n ys) (ht : e ≠ t) : v.ownBlock = none ∨ v.ownBlock ≠ u.ownBlock := by
  cases hv : v.ownBlock with
  | none => exact .inl rfl
  | some b =>
    right
    intro e'
    obtain ⟨c1, k1⟩ := own_obj h hv
    obtain ⟨c2, k2⟩ := own_obj h' e'.symm
    exact Blk.ne_ k1 k2 ht rfl
theorem RI.below {C : Nat} (h : RI B w r k slots vS vD sl dl) (hb : Below C w w') (hC : w.heap.size ≤ C) : RI B w' r k slots vS vD sl dl := by
  have hg : w.grownBy w' none := ⟨hb.os, hb.tape, hb.output, hb.size, fun i hi _ => hb.block i (by omega)⟩
  exact ⟨h.head.below hb (by have := h.head.lt; omega), h.rowS.kept hg (by cases vS.ownBlock <;> simp), h.rowD.kept hg (by cases vD.ownBlock <;> simp), h.rB⟩
/-- a store into the head -/
theorem setCell_grown (w : World) (a : Addr) (u : Value) : w.grownBy (w.setCell a u) (some a.block) :=
  ⟨rfl, rfl, rfl, by simp [World.setCell], fun i _ hi => Below.heap_setCell w a u i (fun e => hi (by rw [e]))⟩
theorem RI.growS {w2 : World} {v' : Value} {x : Int} (h : RI B w r k slots vS vD sl dl) (ho : w2.ownsRow B 3 1 v' (k + 1) (ints sl ++ [.int .i64 x])) (hg : w.grownBy w2 vS.ownBlock) :
    Blk w2 r 70 #[vS, vD, .int .i64 (slots : Int)] ∧ Blk (w2.setCell ⟨r, 0, none⟩ v') r 70 #[v', vD, .int .i64 (slots : Int)] ∧ (w2.setCell ⟨r, 0, none⟩ v').ownsRow B 3 1 v' (k + 1) (ints (sl ++ [x])) ∧ (w2.setCell ⟨r, 0, none⟩ v').ownsRow B 4 1 vD k (bools dl) := by
  have hh : Blk w2 r 70 #[vS, vD, .int .i64 (slots : Int)] := (hg.block r h.head.lt (by rcases own_far h.rowS h.head (by decide) with e | e; (rw [e]; simp); exact fun e' => e e'.symm)).trans h.head
  have hd : w2.ownsRow B 4 1 vD k (bools dl) := h.rowD.kept hg (own_ap h.rowD h.rowS (by decide))
  have hs := setCell_grown w2 ⟨r, 0, none⟩ v'
  refine ⟨hh, by simpa using hh.set_ 0 v', ?_, hd.kept hs (own_far hd hh (by decide))⟩
  have := ho.kept hs (own_far ho hh (by decide))
  simpa [ints] using this
theorem growD {w2 : World} {v' : Value} {x : Bool} {m : Nat} (hh0 : Blk w r 70 #[vS, vD, .int .i64 (slots : Int)]) (hS : w.ownsRow B 3 1 vS m (ints sl)) (hD : w.ownsRow B 4 1 vD k (bools dl)) (ho : w2.ownsRow B 4 1 v' (k + 1) (bools dl ++ [.bool x])) (hg : w.grownBy w2 vD.ownBlock) :
    Blk w2 r 70 #[vS, vD, .int .i64 (slots : Int)] ∧ Blk (w2.setCell ⟨r, 1, none⟩ v') r 70 #[vS, v', .int .i64 (slots : Int)] ∧ (w2.setCell ⟨r, 1, none⟩ v').ownsRow B 3 1 vS m (ints sl) ∧ (w2.setCell ⟨r, 1, none⟩ v').ownsRow B 4 1 v' (k + 1) (bools (dl ++ [x])) := by
  have hh : Blk w2 r 70 #[vS, vD, .int .i64 (slots : Int)] := (hg.block r hh0.lt (by rcases own_far hD hh0 (by decide) with e | e; (rw [e]; simp); exact fun e' => e e'.symm)).trans hh0
  have hd : w2.ownsRow B 3 1 vS m (ints sl) := hS.kept hg (own_ap hS hD (by decide))
  have hs := setCell_grown w2 ⟨r, 1, none⟩ v'
  refine ⟨hh, by simpa using hh.set_ 1 v', hd.kept hs (own_far hd hh (by decide)), ?_⟩
  have := ho.kept hs (own_far ho hh (by decide))
  simpa [bools] using this
end

structure RN (w wr : World) (r k slots : Nat) : Prop where
  ri : ∃ vS vD, RI w.heap.size wr r k slots vS vD (List.replicate k (-1)) (List.replicate k false)
  below : Below w.heap.size w wr

set_option maxHeartbeats 3200000 in
theorem ref_new (nb slots : Nat) (w : World) (h2 : nb ≤ 4096) : Calls Try.prog 12 #[.int .i64 (nb : Int), .int .i64 (slots : Int)] w fun e w' => ∃ r, e = .returned (.pointer (some ⟨r, 0, none⟩)) ∧ RN w w' r nb slots := by
  obtain ⟨i0, hi, hz0, hz1, hz2⟩ := info_parts infoI
  obtain ⟨j0, hj, hy0, hy1, hy2⟩ := info_parts infoB
  have HR0 : Hid (RN w (w.alloc (.cells #[.slice none 0 0, .slice none 0 0, .int .i64 (slots : Int)] 70)) w.heap.size 0 slots) :=
    ⟨⟨_, _, Blk.new _ _ _, World.ownsRow_nil _ _ _ _, World.ownsRow_nil _ _ _ _, Nat.le_refl _⟩, (Below.refl _ w).alloc (Nat.le_refl _) _⟩
  go_enter Try.func12, Try.ntmps12
  go_wp2_with fail
  obtain ⟨r, hr⟩ : ∃ y, y = w.heap.size := ⟨_, rfl⟩
  rw [← hr] at HR0 ⊢
  go_loopw [6] (fun i wr => ∃ k : Nat, k ≤ nb ∧ i = .int .i64 k ∧ RN w wr r k slots) (fun i _ => nb - (intOf i).toNat)
  case atStart => exact ⟨0, by omega, rfl, hr ▸ HR0.out⟩
  case round =>
    clear HR0 hr
    obtain ⟨k, hk, rfl, HI⟩ := hrel
    by_cases hkn : k < nb
    · obtain ⟨vS, vD, hri⟩ := HI.ri
      obtain ⟨AS, cS, rfl⟩ := (Rd.of_own hri.rowS).form
      obtain ⟨AD, cD, rfl⟩ := (Rd.of_own hri.rowD).form
      have HRI := Lib.hid hri
      have HB := Lib.hid HI.below
      have c0 := hri.head.cell 0
      have hlt := hri.head.lt
      simp at c0
      clear HI hri
      go_wp2_with (at_builtin; go_must (refine wpList_append_lies _ rfl (.tmp 19) (.tmp 20) 50 rfl w.heap.size 3 i0 (.int .i64 0) 1 8 Try.underlying50 hi hz0 hz1 hz2 (by rfl) (by decide) _ _ _ (by rfl) (HRI.out.rowS.alloc _) ⟨wr.heap.size, 0, none⟩ 1 1 [.int .i64 (-1)] (by rfl) (by rfl) (cell_one_new _ _ _) (by intro u hu; simp at hu; subst hu; rfl) (by decide) (by unfold maxLen; omega) (by omega) (by have := HB.out.size; simp; omega) (wr.heap.size + 1) (by simp) ?_))
      intro g1 cap1 w2 ho2 hg2 hat2 hlt2
      have ha1 : Below wr.heap.size wr (wr.alloc (.cells #[.int .i64 (-1)] 3)) := (Below.refl _ wr).alloc (Nat.le_refl _) _
      have hG := (HRI.out.below ha1 (Nat.le_refl _)).growS ho2 hg2
      have hB2 : Below w.heap.size w w2 := (HB.out.trans (ha1.mono HB.out.size)).grown hg2 (by have := HB.out.size; simp; omega) (fun j hj => (HRI.out.rowS.lt j hj).1)
      have hB3 : Below w.heap.size w (w2.setCell ⟨r, 0, none⟩ (.slice (some ⟨g1, 0, none⟩) (k + 1) cap1)) := hB2.setCell (p := ⟨r, 0, none⟩) HRI.out.rB _
      have q0 := hG.1.cell 0
      have qf := hG.1.frozen 0
      simp at q0
      have HRB := HRI.out.rB
      have HG := Lib.hid hG
      have HB3 := Lib.hid hB3
      clear ho2 hg2 hat2 hlt2 ha1 hG hB2 hB3 HRI HB c0
      go_upto_region 6 with (fail)
      obtain ⟨w3, hw3⟩ : ∃ y, y = w2.setCell ⟨r, 0, none⟩ (.slice (some ⟨g1, 0, none⟩) (k + 1) cap1) := ⟨_, rfl⟩
      rw [← hw3]
      rw [← hw3] at HG HB3
      clear hw3 q0 qf
      have d1 := HG.out.2.1.cell 1
      have hlt3 := HG.out.2.1.lt
      simp at d1
      go_wp2_with (at_builtin; go_must (refine wpList_append_lies _ rfl (.tmp 28) (.tmp 29) 68 rfl w.heap.size 4 j0 (.bool false) 1 1 Try.underlying68 hj hy0 hy1 hy2 (by rfl) (by decide) _ _ _ (by rfl) (HG.out.2.2.2.alloc _) ⟨w3.heap.size, 0, none⟩ 1 1 [.bool false] (by rfl) (by rfl) (cell_one_new _ _ _) (by intro u hu; simp at hu; subst hu; rfl) (by decide) (by unfold maxLen; omega) (by omega) (by have := HB3.out.size; simp; omega) (w3.heap.size + 1) (by simp) ?_))
      intro g4 cap4 w4 ho4 hg4 hat4 hlt4
      have ha3 : Below w3.heap.size w3 (w3.alloc (.cells #[.bool false] 4)) := (Below.refl _ w3).alloc (Nat.le_refl _) _
      have hG4 := growD (HG.out.2.1.alloc _) (HG.out.2.2.1.alloc _) (HG.out.2.2.2.alloc _) ho4 hg4
      have hB4 : Below w.heap.size w w4 := (HB3.out.trans (ha3.mono HB3.out.size)).grown hg4 (by have := HB3.out.size; simp; omega) (fun j hj => (HG.out.2.2.2.lt j hj).1)
      have HI5 : Hid (RN w (w4.setCell ⟨r, 1, none⟩ (.slice (some ⟨g4, 0, none⟩) (k + 1) cap4)) r (k + 1) slots) := by
        refine ⟨⟨_, _, hG4.2.1, ?_, ?_, HRB⟩, hB4.setCell (p := ⟨r, 1, none⟩) HRB _⟩
        · rw [List.replicate_succ']; exact hG4.2.2.1
        · rw [List.replicate_succ']; exact hG4.2.2.2
      have q1 := hG4.1.cell 1
      have qf1 := hG4.1.frozen 1
      simp at q1
      clear ho4 hg4 hat4 hlt4 ha3 hG4 hB4 HG HB3 d1
      go_wp2
      go_roundw
      case rel => exact ⟨k + 1, by omega, by go_num, HI5.out⟩
      case measure => simp [intOf]; omega
    · have hkn2 : k = nb := by omega
      subst hkn2
      have HJ := Lib.hid HI
      clear HI
      go_wp2
      go_ret
      exact ⟨r, rfl, HJ.out⟩
end Go.Proofs.Ytofeodhekpnpaaa

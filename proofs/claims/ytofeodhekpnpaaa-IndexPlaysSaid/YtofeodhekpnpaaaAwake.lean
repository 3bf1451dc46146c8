/- The walk of awake: the chapter's example holds. -/
import Derived.Test.YtofeodhekpnpaaaPut
namespace Go.Proofs.Ytofeodhekpnpaaa
open Go.RowKit Go.LawEnd

/-- what each law comes to -/
def Yes (w : World) (e : Ending) (w' : World) : Prop := e = .returned (.bool true) ∧ Below w.heap.size w w'
theorem keep_call {w W w' : World} (h : Below w.heap.size w W) (h' : Below W.heap.size W w') : Below w.heap.size w w' := h.trans (h'.mono h.size)
/-- on from a 'Below', what is turned lies beyond -/
theorem keep_ch {w W w' : World} {g b : Nat} (h : Below w.heap.size w W) (h' : Ch (fun j => j = g ∨ j = b) W w') (hg : w.heap.size ≤ g) (hb : w.heap.size ≤ b) : Below w.heap.size w w' :=
  Ch.after h h' h.size (fun k hk => by rcases hk with rfl | rfl <;> assumption)

def l0 : List (Int × Bool) := List.replicate 10 (-1, false)
def f0 : Int → Option Int := fun _ => none
def l1 : List (Int × Bool) := l0.set 5 (2, true)
def f1 : Int → Option Int := upd (era f0 (-1)) 2 5

set_option maxHeartbeats 1600000 in
theorem awake_any (w : World) : Calls Try.prog 10 #[] w (Yes w) := by
  go_enter Try.func10, Try.ntmps10
  go_wp2_with fail
  refine (new_yes 10 4 w (by omega) (by omega) (by omega) (by omega)).mono ?_
  rintro e w1 ⟨x, g, b, rfl, hx, hg, hb, hi, hbl⟩
  have HI1 : Hid (Idx w1 x g b 0 l0 f0 4) := hi
  have HB1 := Lib.hid hbl
  clear hi hbl
  go_wp2_with fail
  refine (put_ok 5 2 (-1) true false HI1 (by decide) (by decide) (by decide) (by decide) (by decide) (by decide) (by decide) (.inl rfl) (by decide) (by decide)).mono ?_
  rintro e w2 ⟨rfl, hi2, hch2⟩
  have HI2 : Hid (Idx w2 x g b 1 l1 f1 4) := hi2
  have HB2 := Lib.hid (keep_ch HB1.out hch2 hg hb)
  clear hi2 hch2 HI1
  go_wp2_with fail
  obtain ⟨B3, hB3⟩ : ∃ y, y = w2.heap.size := ⟨_, rfl⟩
  obtain ⟨w3, hw3⟩ : ∃ y, y = w2.alloc (.cells #[.int .i64 (-1), .bool false] 35) := ⟨_, rfl⟩
  rw [← hw3, ← hB3]
  have A3 : Below w2.heap.size w2 w3 := by rw [hw3]; exact (Below.refl _ w2).alloc (Nat.le_refl _) _
  have HI3 := Lib.hid (HI2.out.below A3 (Nat.le_refl _))
  have HB3 := Lib.hid (keep_call HB2.out A3)
  have HK3 : Hid (Blk w3 B3 35 #[.int .i64 (-1), .bool false]) := by rw [hw3, hB3]; exact Blk.new _ _ _
  have hg3 : B3 ≠ g := fun e => by have := HI2.out.row.lt; omega
  have hb3 : B3 ≠ b := fun e => by have := HI2.out.map.lt; omega
  clear hw3 hB3 A3 HI2 HB2
  refine (put_there 6 2 5 false HI3 (by decide) (by decide) (by decide) (by decide) rfl (by decide)).mono ?_
  rintro e w4 ⟨rfl, hb4⟩
  have HI4 := Lib.hid (HI3.out.below hb4 (Nat.le_refl _))
  have HB4 := Lib.hid (keep_call HB3.out hb4)
  have HK4 := Lib.hid (HK3.out.below hb4 HK3.out.lt)
  clear hb4 HI3 HB3 HK3
  go_wp2_with fail
  obtain ⟨w5, hw5⟩ : ∃ y, y = w4.alloc (.cells #[.int .i64 0, .bool false] 35) := ⟨_, rfl⟩
  rw [← hw5]
  have A5 : Below w4.heap.size w4 w5 := by rw [hw5]; exact (Below.refl _ w4).alloc (Nat.le_refl _) _
  have HI5 := Lib.hid (HI4.out.below A5 (Nat.le_refl _))
  have HB5 := Lib.hid (keep_call HB4.out A5)
  have HK5 := Lib.hid (HK4.out.below A5 HK4.out.lt)
  clear hw5 A5 HI4 HB4 HK4
  refine (put_ok 5 3 2 false true HI5 (by decide) (by decide) (by decide) (by decide) (by decide) (by decide) (by decide) (.inl rfl) (by decide) (by decide)).mono ?_
  rintro e w6 ⟨rfl, hi6, hch6⟩
  have HI6 : Hid (Idx w6 x g b 2 (l1.set 5 (3, false)) (upd (era f1 2) 3 5) 4) := hi6
  have HB6 := Lib.hid (keep_ch HB5.out hch6 hg hb)
  have HK6 := Lib.hid (HK5.out.ch hch6 (fun e => e.elim hg3 hb3))
  clear hi6 hch6 HI5 HB5 HK5
  go_wp2_with fail
  obtain ⟨B7, hB7⟩ : ∃ y, y = w6.heap.size := ⟨_, rfl⟩
  obtain ⟨w7, hw7⟩ : ∃ y, y = w6.alloc (.cells #[.int .i64 2, .bool true] 35) := ⟨_, rfl⟩
  rw [← hw7, ← hB7]
  have A7 : Below w6.heap.size w6 w7 := by rw [hw7]; exact (Below.refl _ w6).alloc (Nat.le_refl _) _
  have HI7 := Lib.hid (HI6.out.below A7 (Nat.le_refl _))
  have HB7 := Lib.hid (keep_call HB6.out A7)
  have HK7 := Lib.hid (HK6.out.below A7 HK6.out.lt)
  have HL7 : Hid (Blk w7 B7 35 #[.int .i64 2, .bool true]) := by rw [hw7, hB7]; exact Blk.new _ _ _
  clear hw7 hB7 A7 HI6 HB6 HK6
  refine (at_none 2 HI7 (by decide) (by decide) (by decide) rfl).mono ?_
  rintro e w' ⟨rfl, rfl⟩
  have k0 := HK7.out.cell 0
  have k1 := HK7.out.cell 1
  have q0 := HL7.out.cell 0
  have q1 := HL7.out.cell 1
  simp at k0 k1 q0 q1
  go_wp2
  go_ret
  exact ⟨rfl, HB7.out⟩
end Go.Proofs.Ytofeodhekpnpaaa

/- The walk of awake: the chapter's example holds. -/
import Derived.Test.YtpfhmkfeneejeaaDrain
import Derived.Deep.RegionHeld3
namespace Go.Proofs.Ytpfhmkfeneejeaa
open Go.RowKit Go.LawEnd Go.Conc

/-- what each law comes to -/
def Yes (w : World) (e : Ending) (w' : World) : Prop := e = .returned (.bool true) ∧ Below w.heap.size w w'
theorem keep_call {w W w' : World} (h : Below w.heap.size w W) (h' : Below W.heap.size W w') : Below w.heap.size w w' := h.trans (h'.mono h.size)

set_option maxHeartbeats 1600000 in
theorem awake_any (w : World) : Calls Try.prog 9 #[] w fun e w' => e = .returned (.bool true) ∧ Below w.heap.size w w' := by
  go_enter Try.func9, Try.ntmps9
  go_wp2_with fail
  refine (RInt.new_yes 2 w (by omega) (by omega)).mono ?_
  rintro e w1 ⟨rfl, hr, hb, hsz⟩
  obtain ⟨p, hp⟩ : ∃ p, p = w.heap.size + 1 := ⟨_, rfl⟩
  obtain ⟨c, hc⟩ : ∃ c, c = w.heap.size := ⟨_, rfl⟩
  rw [← hp, ← hc] at hr
  rw [← hp]
  have hpl : w.heap.size ≤ p := by omega
  have hcl : w.heap.size ≤ c := by omega
  have R1 := Lib.hid hr
  have B1 := Lib.hid hb
  clear hr hb hp hc hsz
  go_wp2_with fail
  refine (RInt.put_room 1 R1.out (by decide)).mono ?_
  rintro e w2 ⟨rfl, hr, hch, hs⟩
  have R2 := Lib.hid hr
  have B2 := Lib.hid (Ch.after B1.out hch B1.out.size (fun k hk => by omega))
  clear hr hch hs
  go_wp2_with fail
  refine (RInt.put_room 2 R2.out (by decide)).mono ?_
  rintro e w3 ⟨rfl, hr, hch, hs⟩
  have R3 := Lib.hid hr
  have B3 := Lib.hid (Ch.after B2.out hch B2.out.size (fun k hk => by omega))
  clear hr hch hs
  go_wp2_with fail
  refine (RInt.put_full 3 R3.out (by decide)).mono ?_
  rintro e w' ⟨rfl, rfl⟩
  go_wp2_with fail
  refine (RInt.take_some 1 (q := [.int .i64 2]) R3.out).mono ?_
  rintro e w4 ⟨rfl, hr, hch, hs⟩
  have R4 := Lib.hid hr
  have B4 := Lib.hid (Ch.after B3.out hch B3.out.size (fun k hk => by omega))
  clear hr hch hs
  go_wp2_with fail
  refine (RInt.put_room 3 R4.out (by decide)).mono ?_
  rintro e w5 ⟨rfl, hr, hch, hs⟩
  have R5 := Lib.hid hr
  have B5 := Lib.hid (Ch.after B4.out hch B4.out.size (fun k hk => by omega))
  clear hr hch hs
  go_wp2_with fail
  refine (RInt.drain_any p c 2 false [2, 3] w5 (by decide) R5).mono ?_
  rintro e w6 ⟨v, rfl, hown, hr, hch⟩
  have hrd := Rd.of_own hown
  have B6 := Lib.hid (Ch.after B5.out hch B5.out.size (fun k hk => by omega))
  obtain ⟨A, cp, rfl⟩ := hrd.form
  have HRD := Lib.hid hrd
  clear hr hch hown hrd
  go_wp2_with fail
  have ha := (Below.refl w6.heap.size w6).alloc (Nat.le_refl _) (.cells #[.int .i64 2, .int .i64 3] 3)
  refine (ints_any _ _ 2 2 [2, 3] [2, 3] (w6.alloc (.cells #[.int .i64 2, .int .i64 3] 3)) (by omega) (by omega) ((HRD.out.below ha (Nat.le_refl _)).mono (by simp)) ((Rd.new w6 3 #[.int .i64 2, .int .i64 3] 2 2 1 (0, 0) rfl (Nat.le_refl _)).mono (by simp))).mono ?_
  rintro e w7 ⟨rfl, hb7⟩
  have B7 := Lib.hid (keep_call (keep_call B6.out ha) hb7)
  clear ha hb7
  go_wp2
  go_ret
  exact ⟨rfl, B7.out⟩
end Go.Proofs.Ytpfhmkfeneejeaa

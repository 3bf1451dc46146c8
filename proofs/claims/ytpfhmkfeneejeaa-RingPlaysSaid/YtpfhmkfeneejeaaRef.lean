/- The walks of the document's ring: Put, Take, Room. -/
import Derived.Test.YtpfhmkfeneejeaaAwake
import Derived.Test.YtpfhmkfeneejeaaWin
namespace Go.Proofs.Ytpfhmkfeneejeaa
open Go.RowKit Go.LawEnd Go.Conc

/-- the document's ring at x -/
structure Ref (B : Nat) (w : World) (x n : Nat) (vL : Value) (q : List Int) (cl : Bool) : Prop where
  head : Blk w x 59 #[vL, .int .i64 (n : Int), .bool cl]
  row : Win w B 3 vL q.length (ints q)
  xB : B ≤ x

section
variable {w w' : World} {B x n : Nat} {vL : Value} {q : List Int} {cl : Bool}
theorem Ref.ne (h : Ref B w x n vL q cl) : vL.ownBlock ≠ some x := h.row.ne_blk h.head (by decide)
theorem Ref.ch {S : Nat → Prop} (h : Ref B w x n vL q cl) (hc : Ch S w w') (hx : ¬ S x) (hv : ∀ b, vL.ownBlock = some b → ¬ S b) : Ref B w' x n vL q cl := ⟨h.head.ch hc hx, h.row.ch hc hv, h.xB⟩
theorem Ref.form (h : Ref B w x n vL q cl) : ∃ A c, vL = .slice A q.length c := h.row.form
end

variable {w : World} {B x n : Nat} {vL : Value} {q : List Int} {cl : Bool}

set_option maxHeartbeats 800000 in
theorem ref_put_shut (z : Int) (hr : Hid (Ref B w x n vL q true)) :
    Calls Try.prog 29 #[.pointer (some ⟨x, 0, none⟩), .int .i64 z] w fun e w' => e = .returned (.int .i64 16) ∧ w = w' := by
  have h2 := hr.out.head.cell 2
  simp at h2
  go_enter Try.func29, Try.ntmps29
  go_wp2
  go_ret
  exact ⟨rfl, rfl⟩

set_option maxHeartbeats 800000 in
theorem ref_put_full (z : Int) (hr : Hid (Ref B w x n vL q false)) (hq : n ≤ q.length) :
    Calls Try.prog 29 #[.pointer (some ⟨x, 0, none⟩), .int .i64 z] w fun e w' => e = .returned (.int .i64 17) ∧ Below w.heap.size w w' ∧ w'.heap.size = w.heap.size := by
  obtain ⟨A, c, rfl⟩ := hr.out.form
  have h0 := hr.out.head.cell 0
  have h1 := hr.out.head.cell 1
  have h2 := hr.out.head.cell 2
  simp at h0 h1 h2
  go_enter Try.func29, Try.ntmps29
  go_wp2
  go_quiet (fail)
  go_wp2
  go_ret
  exact ⟨rfl, ⟨rfl, rfl, rfl, Nat.le_refl _, fun _ _ => rfl⟩, rfl⟩

set_option maxHeartbeats 1600000 in
theorem ref_put_room (z : Int) (hr : Hid (Ref B w x n vL q false)) (hq : q.length < n) (hn : n ≤ 1024) (hB : B ≤ w.heap.size) :
    Calls Try.prog 29 #[.pointer (some ⟨x, 0, none⟩), .int .i64 z] w fun e w' => e = .returned (.int .i64 0) ∧ ∃ vL', Ref B w' x n vL' (q ++ [z]) false ∧ Ch (fun k => k = x ∨ vL.ownBlock = some k) w w' := by
  obtain ⟨i0, hi, hz0, hz1, hz2⟩ := info_parts RInt.infoRow
  obtain ⟨A, c, rfl⟩ := hr.out.form
  have h0 := hr.out.head.cell 0
  have h1 := hr.out.head.cell 1
  have h2 := hr.out.head.cell 2
  simp at h0 h1 h2
  go_enter Try.func29, Try.ntmps29
  go_wp2
  go_quiet (fail)
  have HX : B ≤ x := hr.out.xB
  obtain ⟨w0, hw0⟩ : ∃ y, y = w.drewN nq := ⟨_, rfl⟩
  rw [← hw0]
  have C0 : Hid (Ch (fun k => k = x ∨ (Value.slice A q.length c).ownBlock = some k) w w0) := (show _ from by rw [hw0]; exact (Ch.refl _ w).drewN nq)
  have R0 : Hid (Ref B w0 x n (.slice A q.length c) q false) := by
    show Ref _ _ _ _ _ _ _
    rw [hw0]; exact ⟨hr.out.head, hr.out.row, hr.out.xB⟩
  have HS0 : Hid (B ≤ w0.heap.size) := by show B ≤ _; rw [hw0]; exact hB
  clear hw0 h0 h1 h2 hr
  have h0 := R0.out.head.cell 0
  simp at h0
  go_wp2_with (at_builtin; go_must (refine wpList_append_win rfl (.tmp 23) (.tmp 25) 42 rfl B 3 i0 (.int .i64 0) 8 Try.underlying42 hi hz0 hz1 hz2 (by rfl) _ _ _ (by rfl) (R0.out.row.alloc _) ⟨w0.heap.size, 0, none⟩ 1 1 [.int .i64 z] (by rfl) (by rfl) (cell_one_new _ _ _) (by intro u hu; simp at hu; subst hu; rfl) (by unfold maxLen; omega) (by omega) (by have := HS0.out; simp; omega) ?_))
  intro v1 w1 hrow hg hat
  obtain ⟨A1, c1, rfl⟩ := hrow.form
  have hne := R0.out.ne
  have hb1 : Blk w1 x 59 #[.slice A q.length c, .int .i64 (n : Int), .bool false] :=
    (R0.out.head.alloc (.cells #[.int .i64 z] 3)).ch (Ch.grownBy hg) (fun h => hne h)
  have hc1 := hb1.cell 0
  have hf1 := hb1.frozen 0
  simp at hc1
  have HR1 := Lib.hid hrow
  have HB1 := Lib.hid hb1
  have HC1 : Hid (Ch (fun k => k = x ∨ (Value.slice A q.length c).ownBlock = some k) w w1) := (show _ from (C0.out.alloc (.cells #[.int .i64 z] 3)).grown hg (fun k hk => .inl (.inr hk)))
  have HV : Hid ((Value.slice A1 (q.length + 1) c1).ownBlock ≠ some x) := hrow.ne_blk hb1 (by decide)
  clear hrow hg hat hb1 hne h0 R0 C0 HS0
  go_wp2
  go_ret
  refine ⟨rfl, .slice A1 (q.length + 1) c1, ⟨by simpa using HB1.out.set_ 0 (.slice A1 (q.length + 1) c1), ?_, ?_⟩, HC1.out.setCell (.inl (.inl rfl)) _⟩
  · have := HR1.out
    rw [show (q ++ [z]).length = q.length + 1 by simp, RInt.ints_snoc]
    refine this.kept fun b hb => ?_
    exact Below.heap_setCell w1 ⟨x, 0, none⟩ _ b (fun e => HV.out (by rw [hb]; exact congrArg some e))
  · exact HX

set_option maxHeartbeats 800000 in
theorem ref_take_none (hr : Hid (Ref B w x n vL [] cl)) :
    Calls Try.prog 30 #[.pointer (some ⟨x, 0, none⟩)] w fun e w' => e = .returned (.tuple #[.int .i64 0, .int .i64 14]) ∧ w = w' := by
  obtain ⟨A, c, rfl⟩ := hr.out.form
  have h0 := hr.out.head.cell 0
  simp at h0
  go_enter Try.func30, Try.ntmps30
  go_wp2
  go_ret2
  exact ⟨rfl, rfl⟩

set_option maxHeartbeats 800000 in
theorem ref_take_some (z : Int) (hr : Hid (Ref B w x n vL (z :: q) cl)) (hq : q.length ≤ 1024) :
    Calls Try.prog 30 #[.pointer (some ⟨x, 0, none⟩)] w fun e w' => e = .returned (.tuple #[.int .i64 z, .int .i64 0]) ∧ ∃ vL', Ref B w' x n vL' q cl ∧ Ch (fun k => k = x) w w' := by
  obtain ⟨g, off, cap, rfl, hcap, hgl, hgB, hcell, hrow⟩ := Win.cons_ (n := q.length) (xs := ints q) (x := .int .i64 z) hr.out.row
  have h0 := hr.out.head.cell 0
  have hf := hr.out.head.frozen 0
  simp at h0
  have HR := Lib.hid hrow
  have HN : Hid (g ≠ x) := by
    have := hr.out.ne
    exact fun e => this (by rw [e]; rfl)
  have HH := Lib.hid hr.out.head
  have HX := hr.out.xB
  clear hrow hr
  by_cases hc0 : cap = 0
  · have hq0 : q.length = 0 := by omega
    obtain rfl : q = [] := List.eq_nil_of_length_eq_zero hq0
    subst hc0
    have HR0 : Hid (Win w B 3 (.slice (some ⟨g, off, none⟩) 0 0) 0 []) := by
      rcases HR.out.2 with ⟨h, _⟩ | ⟨g', off', cap', cur', e, hB', hg', hn', hs', hm', hr'⟩
      · cases h
      · cases e
        exact ⟨rfl, .inr ⟨g, off, 0, cur', rfl, hgB, hg', Nat.le_refl _, by omega, by omega, fun j hj => by simp at hj⟩⟩
    clear hq hcap HR hq0
    go_enter Try.func30, Try.ntmps30
    go_wp2
    go_ret2
    refine ⟨rfl, .slice (some ⟨g, off, none⟩) 0 0, ⟨by simpa using HH.out.set_ 0 (.slice (some ⟨g, off, none⟩) 0 0), ?_, HX⟩, (Ch.refl (fun k => k = x) w).setCell (p := ⟨x, 0, none⟩) (.inl rfl) _⟩
    exact HR0.out.kept fun b hb => Below.heap_setCell w ⟨x, 0, none⟩ _ b (fun e => HN.out (by cases hb; exact e))
  · obtain ⟨k, rfl⟩ : ∃ k, cap = k + 1 := ⟨cap - 1, by omega⟩
    go_enter Try.func30, Try.ntmps30
    go_wp2
    go_ret2
    refine ⟨rfl, .slice (some ⟨g, off + 1, none⟩) q.length (k + 1), ⟨by simpa using HH.out.set_ 0 (.slice (some ⟨g, off + 1, none⟩) q.length (k + 1)), ?_, HX⟩, (Ch.refl (fun k => k = x) w).setCell (p := ⟨x, 0, none⟩) (.inl rfl) _⟩
    exact HR.out.kept fun b hb => Below.heap_setCell w ⟨x, 0, none⟩ _ b (fun e => HN.out (by cases hb; exact e))

set_option maxHeartbeats 800000 in
theorem ref_room_shut (hr : Hid (Ref B w x n vL q true)) :
    Calls Try.prog 26 #[.pointer (some ⟨x, 0, none⟩)] w fun e w' => e = .returned (.int .i64 0) ∧ w = w' := by
  have h2 := hr.out.head.cell 2
  simp at h2
  go_enter Try.func26, Try.ntmps26
  go_wp2
  go_ret
  exact ⟨rfl, rfl⟩

set_option maxHeartbeats 800000 in
theorem ref_room_open (hr : Hid (Ref B w x n vL q false)) (hq : q.length ≤ n) (hn : n ≤ 1024) :
    Calls Try.prog 26 #[.pointer (some ⟨x, 0, none⟩)] w fun e w' => e = .returned (.int .i64 ((n - q.length : Nat) : Int)) ∧ Below w.heap.size w w' ∧ w'.heap.size = w.heap.size := by
  obtain ⟨A, c, rfl⟩ := hr.out.form
  have h0 := hr.out.head.cell 0
  have h1 := hr.out.head.cell 1
  have h2 := hr.out.head.cell 2
  simp at h0 h1 h2
  have hs : ((n - q.length : Nat) : Int) = (n : Int) - q.length := by omega
  rw [hs]
  clear hs
  go_enter Try.func26, Try.ntmps26
  go_wp2
  go_quiet (fail)
  go_wp2
  go_ret
  exact ⟨rfl, ⟨rfl, rfl, rfl, Nat.le_refl _, fun _ _ => rfl⟩, rfl⟩
end Go.Proofs.Ytpfhmkfeneejeaa

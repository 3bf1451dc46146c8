/- The walks of Meets and Has. -/
import Derived.Test.YtelkanfmhfopnaaMeets
namespace Go.Proofs.Ytelkanfmhfopnaa
open Go.RowKit Go.LawEnd Go.Shelf

theorem meets_any {T : Nat → Prop} (s : Nat) (l : List Sp) (x : Sp) (w : World) (h : Hid (Sep [setA s l] w T)) (hok : Hid (OkS l)) (hx1 : -9223372036854775808 ≤ x.2) (hx2 : x.2 ≤ 9223372036854775807) :
    Calls Try.prog 22 #[.pointer (some ⟨s, 0, none⟩), .agg #[.int .i64 x.1, .int .i64 x.2]] w fun e w' => e = .returned (.bool (meetsF l x)) ∧ Below w.heap.size w w' := by
  obtain ⟨x0, x1⟩ := x
  have HC0 := Lib.hid (fun W : World => check_any s (x0, x1) W hx1 hx2)
  obtain ⟨P3, hP3⟩ : ∃ y, y = w.heap.size := ⟨_, rfl⟩
  obtain ⟨V, hV⟩ : ∃ y, y = w.alloc (.cells #[.int .i64 x0, .int .i64 x1] 26) := ⟨_, rfl⟩
  have HB : Hid (Below w.heap.size w V) := by rw [hV]; exact (Below.refl w.heap.size w).alloc (Nat.le_refl _) _
  have HW : Hid (Hv w T [setA s l, blkA P3 26 #[.int .i64 x0, .int .i64 x1]] V) := by
    rw [hV, hP3]
    exact ((Hv.start h.out).alloc 26 #[.int .i64 x0, .int .i64 x1]).pick [1, 0]
  clear hx1 hx2
  go_enter Try.func22, Try.ntmps22
  go_wp2_with fail
  rw [← hV, ← hP3]
  clear hV hP3
  refine (HC0.out _).mono ?_
  rintro e W2 ⟨rfl, hb⟩
  have HW2 := Lib.hid (HW.out.still hb)
  have HB2 := Lib.hid (HB.out.trans (hb.mono HB.out.size))
  clear hb HW HB HC0
  have k1 : W2.cell? ⟨P3, 1, none⟩ = some (.int .i64 x1) := by simpa using (HW2.out.blk (i := 1) rfl).cell 1
  by_cases hm : mayB (x0, x1) = true
  · rw [if_pos hm]
    have HM := Lib.hid ((mayB_iff _).1 hm)
    by_cases h0 : x1 = 0
    · have HZ : Hid (meetsF l (x0, x1) = false) := by show _ = _; unfold meetsF; simp [h0]
      have b0 : (x1 == 0) = true := by rw [beq_iff_eq]; exact h0
      clear hm
      go_wp2
      go_ret
      rw [HZ.out]
      exact ⟨rfl, HB2.out⟩
    · have HZ : Hid (meetsF l (x0, x1) = l.any (meetB (x0, x1))) := by show _ = _; unfold meetsF; simp [h0, hm]
      have b0 : (x1 == 0) = false := by rw [beq_eq_false_iff_ne]; exact h0
      obtain ⟨v, hv⟩ := HW2.out.open_
      obtain ⟨A, c, rfl, hA⟩ := SpArg.of_own (hv.row (i := 1) rfl)
      have HA := Lib.hid hA
      have HK := Lib.hid (hv.blk (i := 3) rfl)
      have k2 : W2.cell? ⟨s, 0, none⟩ = some (.slice A l.length c) := by simpa using (hv.blk (i := 0) rfl).cell 0
      clear hm hv hA
      go_wp2_with fail
      refine (containsFunc_any P3 (x0, x1) A c l _ HK HM HA (Lib.hid (fun y hy => by have := hok.out.val y hy; exact ⟨this.1, by omega, this.2.2⟩)) (by have := hok.out.len; omega)).mono ?_
      rintro e W3 ⟨rfl, hb3⟩
      have HB3 := Lib.hid (HB2.out.trans (hb3.mono HB2.out.size))
      clear hb3
      go_wp2
      go_ret
      rw [HZ.out]
      exact ⟨rfl, HB3.out⟩
  · rw [if_neg hm]
    have HZ : Hid (meetsF l (x0, x1) = false) := by show _ = _; unfold meetsF; simp [hm]
    clear hm
    go_wp2
    go_ret
    rw [HZ.out]
    exact ⟨rfl, HB2.out⟩
theorem has_any {T : Nat → Prop} (s : Nat) (l : List Sp) (n : Int) (w : World) (h : Hid (Sep [setA s l] w T)) (hok : Hid (OkS l)) :
    Calls Try.prog 21 #[.pointer (some ⟨s, 0, none⟩), .int .i64 n] w fun e w' => e = .returned (.bool (decide (n < 1048576) && meetsF l (n, 1))) ∧ Below w.heap.size w w' := by
  have HM := Lib.hid (meets_any s l (n, 1) w h hok (by show (_ : Int) ≤ 1; decide) (by show (1 : Int) ≤ _; decide))
  by_cases h0 : n < 1048576
  · have b0 : decide (n < 1048576) = true := decide_eq_true h0
    rw [b0]
    go_enter Try.func21, Try.ntmps21
    go_wp2_with fail
    refine HM.out.mono ?_
    rintro e W2 ⟨rfl, hb⟩
    go_wp2
    go_ret
    exact ⟨by simp, hb⟩
  · have b0 : decide (n < 1048576) = false := decide_eq_false h0
    rw [b0]
    go_enter Try.func21, Try.ntmps21
    go_wp2
    go_ret
    exact ⟨by simp, Below.refl _ _⟩
end Go.Proofs.Ytelkanfmhfopnaa

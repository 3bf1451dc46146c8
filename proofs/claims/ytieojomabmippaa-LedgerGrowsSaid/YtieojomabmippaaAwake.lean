/- The nil ledger; awake, the chapter's example. -/
import Derived.Test.YtieojomabmippaaMay
namespace Go.Proofs.Ytieojomabmippaa
open Go.RowKit Go.LawEnd

def Yes (w : World) (e : Ending) (w' : World) : Prop := e = .returned (.bool true) ∧ Below w.heap.size w w'
theorem slots_nil (f n : Int) (w : World) : Calls Try.prog 22 #[.pointer none, spanV f n] w fun e w' => e = .returned (.slice none 0 0) ∧ Below w.heap.size w w' := by
  go_enter Try.func22, Try.ntmps22
  go_wp2
  go_ret
  exact ⟨rfl, (Below.refl _ w).alloc (Nat.le_refl _) _⟩
theorem encode_nil (w : World) : Calls Try.prog 16 #[.pointer none] w fun e w' => e = .returned (.slice none 0 0) ∧ w = w' := by
  go_enter Try.func16, Try.ntmps16
  go_wp2
  go_ret
  exact ⟨rfl, rfl⟩
theorem copy_nil (w : World) : Calls Try.prog 10 #[.pointer none] w fun e w' => e = .returned (.pointer none) ∧ w = w' := by
  go_enter Try.func10, Try.ntmps10
  go_wp2
  go_ret
  exact ⟨rfl, rfl⟩
theorem same_nil (w : World) : Calls Try.prog 12 #[.pointer none, .pointer none] w fun e w' => e = .returned (.bool true) ∧ w = w' := by
  go_enter Try.func12, Try.ntmps12
  go_wp2
  go_ret
  exact ⟨rfl, rfl⟩
abbrev LW (l : List Int) : Lg := ⟨9, [[], [], [], l, [], [], [], []]⟩
theorem aw_new : L0 8 9 = LW [] := rfl
theorem aw_put (l l' : List Int) : putS (LW l) 3 l' = LW l' := rfl
theorem aw_may : mayL [5, 7] 6 3 = true := by decide
set_option maxRecDepth 100000 in
set_option maxHeartbeats 6400000 in
theorem awake_any (w : World) : Calls Try.prog 8 #[] w (Yes w) := by
  go_enter Try.func8, Try.ntmps8
  go_wp2_with fail
  refine (new_yes 8 9 _ (by decide) (by decide) (by decide) (by decide)).mono ?_
  rintro e w1 ⟨x, rfl, h1⟩
  rw [aw_new] at h1
  have HV := Lib.hid h1
  clear h1
  go_wp2_with fail
  obtain ⟨T, hT, hJ⟩ := HV.out.all
  refine (put_ins 3 [] (Lib.hid rfl) 7 (Lib.hid (by decide)) (Lib.hid (by decide)) (Lib.hid (by decide)) (Lib.hid (by decide)) (Lib.hid hT)).mono ?_
  rintro e w2 ⟨rfl, h2⟩
  rw [aw_put] at h2
  have HV2 := Lib.hid (hJ _ _ h2)
  clear h2 hT hJ HV
  go_wp2_with fail
  obtain ⟨T, hT, hJ⟩ := HV2.out.all
  refine (put_ins 3 [7] (Lib.hid rfl) 5 (Lib.hid (by decide)) (Lib.hid (by decide)) (Lib.hid (by decide)) (Lib.hid (by decide)) (Lib.hid hT)).mono ?_
  rintro e w3 ⟨rfl, h3⟩
  rw [aw_put] at h3
  have HV3 := Lib.hid (hJ _ _ h3)
  clear h3 hT hJ HV2
  go_wp2_with fail
  obtain ⟨T, hT, hJ⟩ := HV3.out.all
  refine (owners_yes 3 [5, 7] (Lib.hid rfl) (Lib.hid (by decide)) (Lib.hid hT)).mono ?_
  rintro e w4 ⟨v, rfl, h4⟩
  obtain ⟨A, c, rfl⟩ := row_form (h4.row (i := 0) rfl)
  have HV4 : Hid (Hv w No [lgA x 2 (LW [5, 7]), rowA (.slice A 2 c) 3 1 2 [.int .i64 5, .int .i64 7]] w4) := (HV3.out.add h4).pick [1, 0]
  clear h4 hT hJ HV3
  go_wp2_with fail
  obtain ⟨T, hT, hJ⟩ := Hv.use [lgA x 2 (LW [5, 7])] _ HV4.out
  refine (may_yes 3 [5, 7] 6 3 (Lib.hid rfl) (by decide) (by decide) (by decide) (Lib.hid hT)).mono ?_
  rintro e w5 ⟨rfl, hb⟩
  rw [aw_may]
  have HV5 := Lib.hid (HV4.out.still hb)
  clear hb hT hJ HV4
  go_wp2_with fail
  obtain ⟨T, hT, hJ⟩ := Hv.use [lgA x 2 (LW [5, 7])] _ HV5.out
  refine (scrub_yes 3 (Lib.hid (by decide)) (Lib.hid hT)).mono ?_
  rintro e w6 ⟨rfl, h6⟩
  rw [aw_put] at h6
  have HV6 := Lib.hid (hJ _ _ h6)
  clear h6 hT hJ HV5
  go_wp2_with fail
  obtain ⟨T, hT, hJ⟩ := Hv.use [lgA x 2 (LW [])] _ HV6.out
  refine (owners_yes 3 [] (Lib.hid rfl) (Lib.hid (by decide)) (Lib.hid hT)).mono ?_
  rintro e w7 ⟨v, rfl, h7⟩
  obtain ⟨A2, c2, rfl⟩ := row_form (h7.row (i := 0) rfl)
  have HV7 : Hid (Hv w No [rowA (.slice A 2 c) 3 1 2 [.int .i64 5, .int .i64 7]] w7) := (HV6.out.add h7).pick [2]
  clear h7 hT hJ HV6
  have hr := HV7.out.row (i := 0) rfl
  rcases hr.2 with ⟨_, h0⟩ | ⟨g, cap, cur, e, _⟩
  · cases h0
  · cases e
    have c0 := hr.cellAt 0 (by decide)
    have c1 := hr.cellAt 1 (by decide)
    simp only [List.getElem?_cons_zero, List.getElem?_cons_succ] at c0 c1
    go_wp2
    go_ret
    exact ⟨rfl, HV7.out.below⟩
end Go.Proofs.Ytieojomabmippaa

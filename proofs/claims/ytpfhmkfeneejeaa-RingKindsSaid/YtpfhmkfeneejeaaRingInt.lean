/- The walks of a ring of things of one cell (int). -/
import Derived.Test.YtpfhmkfeneejeaaRing
namespace Go.Proofs.Ytpfhmkfeneejeaa.RInt
open Go.RowKit Go.LawEnd Go.Conc

theorem new_yes (n : Nat) (w : World) (h1 : 1 ≤ n) (h2 : n ≤ 1024) :
    Calls Try.prog 17 #[.int .i64 (n : Int)] w fun e w' => e = .returned (.tuple #[.pointer (some ⟨w.heap.size + 1, 0, none⟩), .int .i64 0]) ∧ Ring 76 w' (w.heap.size + 1) w.heap.size n [] false ∧ Below w.heap.size w w' ∧ w'.heap.size = w.heap.size + 2 := by
  have hmk : ∀ W : World, (Instr.makeChan 74 (.int .i64 (n : Int))).run Try.prog W = .ok (.chan (some W.heap.size)) (W.alloc (.chan n #[] false 0 0 false)) := fun W => make_chan Try.underlying74 infoInt (by decide) n (by omega) W
  have HP : Hid (∀ w' : World, w' = (w.alloc (.chan n #[] false 0 0 false)).alloc (.cells #[.chan (some w.heap.size), .bool false] 76) → Ring 76 w' (w.heap.size + 1) w.heap.size n [] false ∧ Below w.heap.size w w' ∧ w'.heap.size = w.heap.size + 2) := by
    rintro w' rfl
    refine ⟨⟨?_, 0, 0, ?_⟩, ((Below.refl _ _).alloc (Nat.le_refl _) _).alloc (by simp) _, by simp⟩
    · have := Blk.new (w.alloc (.chan n #[] false 0 0 false)) 76 #[.chan (some w.heap.size), .bool false]
      simpa using this
    · rw [Below.heap_alloc _ _ _ (by simp)]
      exact heap_alloc_new w _
  go_enter Try.func17, Try.ntmps17
  go_wp2
  go_ret2
  exact ⟨rfl, HP.out _ rfl⟩
theorem new_no (n : Int) (w : World) (h : n < 1 ∨ 1024 < n) :
    Calls Try.prog 17 #[.int .i64 n] w fun e w' => e = .returned (.tuple #[.pointer none, .int .i64 24]) ∧ w = w' := by
  by_cases h1 : n < 1
  · clear h
    go_enter Try.func17, Try.ntmps17
    go_wp2
    go_ret2
    exact ⟨rfl, rfl⟩
  · have h2 : 1024 < n := by omega
    clear h
    go_enter Try.func17, Try.ntmps17
    go_wp2
    go_ret2
    exact ⟨rfl, rfl⟩

section
variable {p c cap : Nat} {q : List Value} {cl : Bool} {w : World}

set_option maxHeartbeats 400000 in
theorem put_room (x : Int) (hr : Hid (Ring 76 w p c cap q false)) (hroom : q.length < cap) :
    Calls Try.prog 18 #[.pointer (some ⟨p, 0, none⟩), .int .i64 x] w fun e w' => e = .returned (.int .i64 0) ∧ Ring 76 w' p c cap (q ++ [.int .i64 x]) false ∧ Ch (fun k => k = c) w w' ∧ w'.heap.size = w.heap.size := by
  have h0 := hr.out.head.cell 0
  have h1 := hr.out.head.cell 1
  simp at h0 h1
  go_enter Try.func18, Try.ntmps18
  go_upto_region 7 with (fail)
  obtain ⟨s, r, hc⟩ := hr.out.chan
  refine wp_select_send_room (v := .int .i64 x) (z := .int .i64 0) rfl (by kernel_rfl) hc (by simpa using hroom) ?_
  go_wp2
  go_ret
  exact ⟨rfl, hr.out.putted hc _⟩
set_option maxHeartbeats 400000 in
theorem put_full (x : Int) (hr : Hid (Ring 76 w p c cap q false)) (hroom : cap ≤ q.length) :
    Calls Try.prog 18 #[.pointer (some ⟨p, 0, none⟩), .int .i64 x] w fun e w' => e = .returned (.int .i64 17) ∧ w = w' := by
  have h0 := hr.out.head.cell 0
  have h1 := hr.out.head.cell 1
  simp at h0 h1
  go_enter Try.func18, Try.ntmps18
  go_upto_region 7 with (fail)
  obtain ⟨s, r, hc⟩ := hr.out.chan
  refine wp_select_send_full (v := .int .i64 x) (z := .int .i64 0) rfl (by kernel_rfl) hc (by simpa using hroom) ?_
  go_wp2
  go_ret
  exact ⟨rfl, rfl⟩
set_option maxHeartbeats 400000 in
theorem put_shut (x : Int) (hr : Hid (Ring 76 w p c cap q true)) :
    Calls Try.prog 18 #[.pointer (some ⟨p, 0, none⟩), .int .i64 x] w fun e w' => e = .returned (.int .i64 16) ∧ w = w' := by
  have h0 := hr.out.head.cell 0
  have h1 := hr.out.head.cell 1
  simp at h0 h1
  go_enter Try.func18, Try.ntmps18
  go_wp2
  go_ret
  exact ⟨rfl, rfl⟩
set_option maxHeartbeats 400000 in
theorem put_nil (x : Int) : Calls Try.prog 18 #[.pointer none, .int .i64 x] w fun e w' => e = .returned (.int .i64 2) ∧ w = w' := by
  go_enter Try.func18, Try.ntmps18
  go_wp2
  go_ret
  exact ⟨rfl, rfl⟩

set_option maxHeartbeats 400000 in
theorem take_some (x : Int) (hr : Hid (Ring 76 w p c cap (.int .i64 x :: q) cl)) :
    Calls Try.prog 20 #[.pointer (some ⟨p, 0, none⟩)] w fun e w' => e = .returned (.tuple #[.int .i64 x, .int .i64 0]) ∧ Ring 76 w' p c cap q cl ∧ Ch (fun k => k = c) w w' ∧ w'.heap.size = w.heap.size := by
  have h0 := hr.out.head.cell 0
  simp at h0
  go_enter Try.func20, Try.ntmps20
  go_upto_region 5 with (fail)
  obtain ⟨s, r, hc⟩ := hr.out.chan
  refine wp_select_recv_buf (z := .int .i64 0) rfl (by kernel_rfl) hc (by simp) ?_
  go_wp2
  go_ret2
  exact ⟨rfl, hr.out.taken hc⟩
set_option maxHeartbeats 400000 in
theorem take_none (hr : Hid (Ring 76 w p c cap [] cl)) :
    Calls Try.prog 20 #[.pointer (some ⟨p, 0, none⟩)] w fun e w' => e = .returned (.tuple #[.int .i64 0, .int .i64 14]) ∧ w = w' := by
  have h0 := hr.out.head.cell 0
  simp at h0
  cases cl
  · go_enter Try.func20, Try.ntmps20
    go_upto_region 5 with (fail)
    obtain ⟨s, r, hc⟩ := hr.out.chan
    refine wp_select_recv_none (z := .int .i64 0) rfl (by kernel_rfl) hc ?_
    go_wp2
    go_ret2
    exact ⟨rfl, rfl⟩
  · go_enter Try.func20, Try.ntmps20
    go_upto_region 5 with (fail)
    obtain ⟨s, r, hc⟩ := hr.out.chan
    refine wp_select_recv_shut (z := .int .i64 0) rfl (by kernel_rfl) hc ?_
    go_wp2
    go_ret2
    exact ⟨rfl, rfl⟩
set_option maxHeartbeats 400000 in
theorem take_nil : Calls Try.prog 20 #[.pointer none] w fun e w' => e = .returned (.tuple #[.int .i64 0, .int .i64 2]) ∧ w = w' := by
  go_enter Try.func20, Try.ntmps20
  go_wp2
  go_ret2
  exact ⟨rfl, rfl⟩

set_option maxHeartbeats 400000 in
theorem len_any (hr : Hid (Ring 76 w p c cap q cl)) :
    Calls Try.prog 23 #[.pointer (some ⟨p, 0, none⟩)] w fun e w' => e = .returned (.int .i64 (q.length : Int)) ∧ w = w' := by
  have h0 := hr.out.head.cell 0
  simp at h0
  obtain ⟨s, r, hc⟩ := hr.out.chan
  have hl : ∀ ty, (Builtin.len_ #[74] ty #[.chan (some c)]).run Try.prog w = .ok (goInt q.toArray.size) w := fun ty => run_len_chan 74 ty Try.underlying74 hc
  simp only [List.size_toArray, goInt] at hl
  clear hc
  go_enter Try.func23, Try.ntmps23
  go_wp2
  go_ret
  exact ⟨rfl, rfl⟩
set_option maxHeartbeats 400000 in
theorem len_nil : Calls Try.prog 23 #[.pointer none] w fun e w' => e = .returned (.int .i64 0) ∧ w = w' := by
  go_enter Try.func23, Try.ntmps23
  go_wp2
  go_ret
  exact ⟨rfl, rfl⟩
end
end Go.Proofs.Ytpfhmkfeneejeaa.RInt

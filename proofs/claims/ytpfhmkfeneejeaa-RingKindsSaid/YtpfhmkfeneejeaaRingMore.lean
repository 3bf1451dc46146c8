/- Close, Closed, Room, Drain of a ring of ints. -/
import Derived.Test.YtpfhmkfeneejeaaRingInt
import Derived.Test.YtpfhmkfeneejeaaInts
import Derived.Deep.DeepMust
import Derived.Deep.LoopGhost
namespace Go.Proofs.Ytpfhmkfeneejeaa.RInt
open Go.RowKit Go.LawEnd Go.Conc
section
variable {p c cap : Nat} {q : List Value} {cl : Bool} {w : World}

theorem closed_state (h : Ring 76 w p c cap q false) (s r : Nat) :
    Ring 76 ((w.setCell ⟨p, 1, none⟩ (.bool true)).setChan c cap q.toArray true s r false) p c cap q true ∧ Ch (fun k => k = p ∨ k = c) w ((w.setCell ⟨p, 1, none⟩ (.bool true)).setChan c cap q.toArray true s r false) ∧
      ((w.setCell ⟨p, 1, none⟩ (.bool true)).setChan c cap q.toArray true s r false).heap.size = w.heap.size := by
  have h1 := h.head.set_ 1 (.bool true)
  have hsz : (w.setCell ⟨p, 1, none⟩ (.bool true)).heap.size = w.heap.size := by simp [World.setCell]
  have hc1 : Ch (fun k => k = p ∨ k = c) w (w.setCell ⟨p, 1, none⟩ (.bool true)) := (Ch.refl (fun k => k = p ∨ k = c) w).setCell (p := ⟨p, 1, none⟩) (.inl (.inl rfl)) _
  have hc2 : Ch (fun k => k = c) (w.setCell ⟨p, 1, none⟩ (.bool true)) ((w.setCell ⟨p, 1, none⟩ (.bool true)).setChan c cap q.toArray true s r false) := (Ch.refl (fun k => k = c) _).setChan (.inl rfl) _ _ _ _ _ _
  refine ⟨⟨?_, s, r, heap_setChan _ _ _ _ _ _ _ _ (by rw [hsz]; exact h.clt)⟩, hc1.trans (hc2.mono fun k _ hk => .inr hk), by rw [size_setChan, hsz]⟩
  have := h1.ch hc2 h.ne
  simpa using this

set_option maxHeartbeats 400000 in
theorem close_yes (hr : Hid (Ring 76 w p c cap q false)) :
    Calls Try.prog 19 #[.pointer (some ⟨p, 0, none⟩)] w fun e w' => e = .returned (.int .i64 0) ∧ Ring 76 w' p c cap q true ∧ Ch (fun k => k = p ∨ k = c) w w' ∧ w'.heap.size = w.heap.size := by
  have h0 := hr.out.head.cell 0
  have h1 := hr.out.head.cell 1
  have hf := hr.out.head.frozen 1
  simp at h0 h1
  obtain ⟨s, r, hc⟩ := hr.out.chan
  have hne := hr.out.ne
  have h0' : (w.setCell ⟨p, 1, none⟩ (.bool true)).cell? ⟨p, 0, none⟩ = some (.chan (some c)) := by
    have := (hr.out.head.set_ 1 (.bool true)).cell 0
    simpa using this
  have hcl : ∀ ats ty, (Builtin.close_ ats ty #[.chan (some c)]).run Try.prog (w.setCell ⟨p, 1, none⟩ (.bool true)) = .ok (.tuple #[]) ((w.setCell ⟨p, 1, none⟩ (.bool true)).setChan c cap q.toArray true s r false) := fun ats ty =>
    run_close_open (P := Try.prog) ats ty (by rw [Below.heap_setCell _ _ _ _ (fun h => hne h.symm)]; exact hc)
  have HZ := Lib.hid (closed_state hr.out s r)
  clear hc hne
  go_enter Try.func19, Try.ntmps19
  go_wp2
  go_ret
  exact ⟨rfl, HZ.out⟩
set_option maxHeartbeats 400000 in
theorem close_no (hr : Hid (Ring 76 w p c cap q true)) :
    Calls Try.prog 19 #[.pointer (some ⟨p, 0, none⟩)] w fun e w' => e = .returned (.int .i64 16) ∧ w = w' := by
  have h1 := hr.out.head.cell 1
  simp at h1
  go_enter Try.func19, Try.ntmps19
  go_wp2
  go_ret
  exact ⟨rfl, rfl⟩
theorem close_nil : Calls Try.prog 19 #[.pointer none] w fun e w' => e = .returned (.int .i64 2) ∧ w = w' := by
  go_enter Try.func19, Try.ntmps19
  go_wp2
  go_ret
  exact ⟨rfl, rfl⟩
set_option maxHeartbeats 400000 in
theorem closed_any (hr : Hid (Ring 76 w p c cap q cl)) :
    Calls Try.prog 27 #[.pointer (some ⟨p, 0, none⟩)] w fun e w' => e = .returned (.bool cl) ∧ w = w' := by
  have h1 := hr.out.head.cell 1
  simp at h1
  go_enter Try.func27, Try.ntmps27
  go_wp2
  go_ret
  exact ⟨rfl, rfl⟩
theorem closed_nil : Calls Try.prog 27 #[.pointer none] w fun e w' => e = .returned (.bool false) ∧ w = w' := by
  go_enter Try.func27, Try.ntmps27
  go_wp2
  go_ret
  exact ⟨rfl, rfl⟩
set_option maxHeartbeats 400000 in
theorem room_open (hr : Hid (Ring 76 w p c cap q false)) (hq : q.length ≤ cap) (hcap : cap ≤ 1024) :
    Calls Try.prog 22 #[.pointer (some ⟨p, 0, none⟩)] w fun e w' => e = .returned (.int .i64 ((cap - q.length : Nat) : Int)) ∧ Below w.heap.size w w' ∧ w'.heap.size = w.heap.size := by
  have h0 := hr.out.head.cell 0
  have h1 := hr.out.head.cell 1
  simp at h0 h1
  obtain ⟨s, r, hc⟩ := hr.out.chan
  have hl : ∀ nq ty, (Builtin.len_ #[74] ty #[.chan (some c)]).run Try.prog (w.drewN nq) = .ok (.int .i64 (q.length : Int)) (w.drewN nq) := fun nq ty => by
    have := run_len_chan (P := Try.prog) (w := w.drewN nq) 74 ty Try.underlying74 hc
    simpa [goInt] using this
  have hk : ∀ nq ty, (Builtin.cap_ #[74] ty #[.chan (some c)]).run Try.prog (w.drewN nq) = .ok (.int .i64 (cap : Int)) (w.drewN nq) := fun nq ty => by
    have := run_cap_chan (P := Try.prog) (w := w.drewN nq) 74 ty Try.underlying74 hc
    simpa [goInt] using this
  clear hc
  go_enter Try.func22, Try.ntmps22
  go_wp2
  go_quiet (fail)
  go_wp2
  go_ret
  exact ⟨by rw [Int.ofNat_sub hq]; rfl, ⟨rfl, rfl, rfl, Nat.le_refl _, fun _ _ => rfl⟩, rfl⟩
theorem room_shut (hr : Hid (Ring 76 w p c cap q true)) :
    Calls Try.prog 22 #[.pointer (some ⟨p, 0, none⟩)] w fun e w' => e = .returned (.int .i64 0) ∧ w = w' := by
  have h1 := hr.out.head.cell 1
  simp at h1
  go_enter Try.func22, Try.ntmps22
  go_wp2
  go_ret
  exact ⟨rfl, rfl⟩
theorem room_nil : Calls Try.prog 22 #[.pointer none] w fun e w' => e = .returned (.int .i64 0) ∧ w = w' := by
  go_enter Try.func22, Try.ntmps22
  go_wp2
  go_ret
  exact ⟨rfl, rfl⟩
end
end Go.Proofs.Ytpfhmkfeneejeaa.RInt

/- The walk of Ints: are two lists of ints one? -/
import Derived.Test.YtpfhmkfeneejeaaRing
import Derived.Test.YtpfhmkfeneejeaaRd
import Derived.Deep.QuietTactic
import Derived.BigQuiet
namespace Go.Proofs.Ytpfhmkfeneejeaa
open Go.RowKit Go.LawEnd

def ints (l : List Int) : List Value := l.map (Value.int .i64)
theorem ints_length (l : List Int) : (ints l).length = l.length := by simp [ints]

theorem eq_of_take {l m : List Int} (h : l.take l.length = m.take l.length) (hl : l.length = m.length) : l = m := by
  rw [List.take_length, hl, List.take_length] at h; exact h

set_option maxHeartbeats 400000 in
theorem ints_any (va vb : Value) (n1 n2 : Nat) (l m : List Int) (w : World) (h1 : n1 ≤ 9223372036854775807) (h2 : n2 ≤ 9223372036854775807) (ha : Rd w w.heap.size 1 va n1 (ints l)) (hb : Rd w w.heap.size 1 vb n2 (ints m)) :
    Calls Try.prog 21 #[va, vb] w fun e w' => e = .returned (.bool (decide (l = m))) ∧ Below w.heap.size w w' := by
  have e1 : l.length = n1 := by have := ha.1; simpa [ints] using this
  have e2 : m.length = n2 := by have := hb.1; simpa [ints] using this
  obtain ⟨A1, c1, rfl⟩ := ha.form
  obtain ⟨A2, c2, rfl⟩ := hb.form
  by_cases hn : n1 = n2
  · subst hn
    have HA := Lib.hid ha
    have HB := Lib.hid hb
    have E1 := Lib.hid e1
    have E2 := Lib.hid e2
    clear ha hb e1 e2
    go_enter Try.func21, Try.ntmps21
    go_wp2
    go_loopw [5] (fun i wr => ∃ k : Nat, k ≤ n1 ∧ i = .int .i64 k ∧ Hid (l.take k = m.take k) ∧ Hid (Below w.heap.size w wr)) (fun i _ => n1 - (intOf i).toNat)
    case atStart => exact ⟨0, by omega, rfl, rfl, Below.refl _ _⟩
    case round =>
      obtain ⟨k, hk, rfl, HT, HW⟩ := hrel
      by_cases hk2 : k < n1
      · obtain ⟨b1, off1, rfl, hb1, hk1, hc1⟩ := HA.out.at_ hk2
        obtain ⟨b2, off2, rfl, hb2, hk2', hc2⟩ := HB.out.at_ hk2
        have hl1 : k < l.length := by have := E1.out; omega
        have hl2 : k < m.length := by have := E2.out; omega
        obtain ⟨x, hx⟩ : ∃ x, l[k] = x := ⟨_, rfl⟩
        obtain ⟨y, hy⟩ : ∃ x, m[k] = x := ⟨_, rfl⟩
        have hd1 : wr.cell? ⟨b1, off1 + k, none⟩ = some (.int .i64 x) := by
          rw [← hx, HW.out.cell (p := ⟨b1, off1 + k, none⟩) hb1, hc1]; simp [ints]
        have hd2 : wr.cell? ⟨b2, off2 + k, none⟩ = some (.int .i64 y) := by
          rw [← hy, HW.out.cell (p := ⟨b2, off2 + k, none⟩) hb2, hc2]; simp [ints]
        have HX := Lib.hid hx
        have HY := Lib.hid hy
        clear hc1 hc2 hx hy
        by_cases hxy : x = y
        · subst hxy
          go_wp2
          go_quiet (fail)
          go_wp2
          go_roundw
          case rel =>
            refine ⟨k + 1, by omega, by go_num, ?_, Below.trans HW.out ⟨rfl, rfl, rfl, Nat.le_refl _, fun _ _ => rfl⟩⟩
            show l.take (k + 1) = m.take (k + 1)
            rw [List.take_succ_eq_append_getElem hl1, List.take_succ_eq_append_getElem hl2, HT.out, HX.out, HY.out]
          case measure => simp [intOf]; omega
        · have hne : (x != y) = true := by rw [bne_iff_ne]; exact hxy
          have hd : decide (l = m) = false := by
            rw [decide_eq_false_iff_not]
            rintro rfl
            exact hxy (by rw [← HX.out, ← HY.out])
          have HD := Lib.hid hd
          clear hxy hd
          go_wp2
          go_quiet (fail)
          go_wp2
          go_ret
          exact ⟨by rw [HD.out]; rfl, Below.trans HW.out ⟨rfl, rfl, rfl, Nat.le_refl _, fun _ _ => rfl⟩⟩
      · have hkn : k = n1 := by omega
        have hd : decide (l = m) = true := by
          rw [decide_eq_true_iff]
          have h := HT.out
          exact eq_of_take (by rw [E1.out, ← hkn]; exact h) (by rw [E1.out, E2.out])
        have HD := Lib.hid hd
        clear hd
        go_wp2
        go_ret
        exact ⟨by rw [HD.out]; rfl, HW.out⟩
  · have hne : ((n1 : Int) != (n2 : Int)) = true := by rw [bne_iff_ne]; omega
    have HD : Hid (decide (l = m) = false) := by
      show _ = _
      rw [decide_eq_false_iff_not]
      rintro rfl
      exact hn (by rw [← e1, ← e2])
    clear ha hb e1 e2 hn
    go_enter Try.func21, Try.ntmps21
    go_wp2
    go_ret
    exact ⟨by rw [HD.out]; rfl, Below.refl _ _⟩
end Go.Proofs.Ytpfhmkfeneejeaa

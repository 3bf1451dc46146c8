/- The walks of the small functions of crc and of its reference. -/
import Derived.Test.YtllbdbecenhomaaDoorNext
namespace Go.Proofs.YtllbdbecenhomaaDoor
open Go.RowKit Go.Proofs.CrcMath

/-- may these be a sum and a number of bytes -/
def Fits (s b : Int) : Prop := 0 ≤ s ∧ s ≤ 4294967295 ∧ 0 ≤ b ∧ b ≤ 1048576

set_option maxHeartbeats 400000 in
theorem right_yes (s b : Int) (w : World) (h : Fits s b) :
    Calls Tryd.prog 18 #[.int .i64 s, .int .i64 b] w fun e w' => e = .returned (.bool true) ∧ w = w' := by
  obtain ⟨h1, h2, h3, h4⟩ := h
  go_enter Tryd.func18, Tryd.ntmps18
  go_wp2
  go_ret
  exact ⟨rfl, rfl⟩
set_option maxHeartbeats 400000 in
theorem right_no (s b : Int) (w : World) (h : ¬ Fits s b) :
    Calls Tryd.prog 18 #[.int .i64 s, .int .i64 b] w fun e w' => e = .returned (.bool false) ∧ w = w' := by
  unfold Fits at h
  by_cases h1 : 0 ≤ s
  · by_cases h2 : s ≤ 4294967295
    · by_cases h3 : 0 ≤ b
      · have h4 : ¬ b ≤ 1048576 := by omega
        clear h
        go_enter Tryd.func18, Tryd.ntmps18
        go_wp2
        go_ret
        exact ⟨rfl, rfl⟩
      · clear h
        go_enter Tryd.func18, Tryd.ntmps18
        go_wp2
        go_ret
        exact ⟨rfl, rfl⟩
    · clear h
      go_enter Tryd.func18, Tryd.ntmps18
      go_wp2
      go_ret
      exact ⟨rfl, rfl⟩
  · clear h
    go_enter Tryd.func18, Tryd.ntmps18
    go_wp2
    go_ret
    exact ⟨rfl, rfl⟩

set_option maxHeartbeats 400000 in
theorem shifted_any (s n : Nat) (w : World) (hs : s < 4294967296) (hn : n ≤ 1048576) (hT : Hid (Tab w)) :
    Calls Tryd.prog 19 #[.int .i64 s, .int .i64 n] w fun e w' => e = .returned (.int .i64 (shifted s n : Nat)) ∧ w = w' := by
  go_enter Tryd.func19, Tryd.ntmps19
  go_wp2
  go_loop [0, 6] (fun a i => ∃ k u : Nat, k ≤ n ∧ u < 4294967296 ∧ Hid (shifted s k = u) ∧ i = .int .i64 k ∧ a = .int .i64 u) (fun _ i => n - (intOf i).toNat)
  case atStart => exact ⟨0, s, by omega, hs, rfl, rfl, rfl⟩
  case round =>
    obtain ⟨k, u, hk, hu, HU, rfl, rfl⟩ := hrel
    by_cases hk2 : k < n
    · go_wp2_with fail
      refine (next_any u 0 _ hu (by omega) hT).mono ?_
      rintro e w' ⟨rfl, rfl⟩
      go_wp2
      go_round
      case rel =>
        refine ⟨k + 1, next u 0, by omega, next_lt u 0 hu (by omega), ?_, by go_num, rfl⟩
        show shifted s (k + 1) = _
        rw [shifted_succ, HU.out]
      case measure => simp [intOf]; omega
    · go_wp2
      obtain rfl : k = n := by omega
      go_ret
      refine ⟨?_, rfl⟩
      rw [← HU.out]; rfl

set_option maxHeartbeats 400000 in
theorem join_yes (s t n : Nat) (w : World) (hs : s < 4294967296) (ht : t < 4294967296) (hn : n ≤ 1048576) (hT : Hid (Tab w)) :
    Calls Tryd.prog 12 #[.int .i64 s, .int .i64 t, .int .i64 n] w fun e w' => e = .returned (.tuple #[.int .i64 ((shifted s n ^^^ t : Nat) : Int), .int .i64 0]) ∧ w = w' := by
  have hsl : shifted s n < 4294967296 := shifted_lt s n hs
  have hx := i64_xor_nat (shifted s n) t (by omega) (by omega)
  go_enter Tryd.func12, Tryd.ntmps12
  go_wp2_with (first
    | (go_at_call 18; refine (right_yes _ _ _ ⟨by omega, by omega, by omega, by omega⟩).mono ?_; rintro e w' ⟨rfl, rfl⟩)
    | (go_at_call 19; refine (shifted_any _ _ _ hs hn hT).mono ?_; rintro e w' ⟨rfl, rfl⟩))
  go_ret2
  exact ⟨rfl, rfl⟩
theorem join_no (s t n : Int) (w : World) (h : ¬ (Fits s n ∧ Fits t n)) :
    Calls Tryd.prog 12 #[.int .i64 s, .int .i64 t, .int .i64 n] w fun e w' => e = .returned (.tuple #[.int .i64 0, .int .i64 1]) ∧ w = w' := by
  by_cases h1 : Fits s n
  · have h2 : ¬ Fits t n := fun h2 => h ⟨h1, h2⟩
    have H1 := Lib.hid h1
    have H2 := Lib.hid h2
    clear h1 h2 h
    go_enter Tryd.func12, Tryd.ntmps12
    go_wp2_with fail
    refine (right_yes _ _ _ H1.out).mono ?_
    rintro e w' ⟨rfl, rfl⟩
    go_wp2_with fail
    refine (right_no _ _ _ H2.out).mono ?_
    rintro e w' ⟨rfl, rfl⟩
    go_wp2
    go_ret2
    exact ⟨rfl, rfl⟩
  · have H1 := Lib.hid h1
    clear h1 h
    go_enter Tryd.func12, Tryd.ntmps12
    go_wp2_with fail
    refine (right_no _ _ _ H1.out).mono ?_
    rintro e w' ⟨rfl, rfl⟩
    go_wp2
    go_ret2
    exact ⟨rfl, rfl⟩

set_option maxHeartbeats 400000 in
theorem noughts_yes (n : Nat) (w : World) (hn : n ≤ 1048576) (hT : Hid (Tab w)) :
    Calls Tryd.prog 13 #[.int .i64 n] w fun e w' => e = .returned (.tuple #[.int .i64 ((shifted all n ^^^ all : Nat) : Int), .int .i64 0]) ∧ w = w' := by
  have hsl : shifted all n < 4294967296 := shifted_lt all n all_lt
  have hx : bits .xor .i64 (shifted all n : Int) 4294967295 = ((shifted all n ^^^ all : Nat) : Int) := i64_xor_nat (shifted all n) all (by omega) (by decide)
  have c19 := fun W (h : Hid (Tab W)) => shifted_any all n W all_lt hn h
  rw [show ((all : Nat) : Int) = 4294967295 from rfl] at c19
  have C19 := Lib.hid c19
  clear c19
  go_enter Tryd.func13, Tryd.ntmps13
  go_wp2_with (first
    | (go_at_call 18; refine (right_yes _ _ _ ⟨by omega, by omega, by omega, by omega⟩).mono ?_; rintro e w' ⟨rfl, rfl⟩)
    | (go_at_call 19; refine (C19.out _ hT).mono ?_; rintro e w' ⟨rfl, rfl⟩))
  go_ret2
  exact ⟨rfl, rfl⟩
theorem noughts_no (n : Int) (w : World) (h : n < 0 ∨ 1048576 < n) :
    Calls Tryd.prog 13 #[.int .i64 n] w fun e w' => e = .returned (.tuple #[.int .i64 0, .int .i64 1]) ∧ w = w' := by
  have H : Hid (¬ Fits 0 n) := by show ¬ Fits 0 n; unfold Fits; omega
  clear h
  go_enter Tryd.func13, Tryd.ntmps13
  go_wp2_with fail
  refine (right_no _ _ _ H.out).mono ?_
  rintro e w' ⟨rfl, rfl⟩
  go_wp2
  go_ret2
  exact ⟨rfl, rfl⟩

set_option maxHeartbeats 400000 in
theorem refRight_yes (n : Int) (w : World) (h0 : 0 ≤ n) (h1 : n ≤ 4294967295) :
    Calls Tryd.prog 14 #[.int .i64 n] w fun e w' => e = .returned (.bool true) ∧ w = w' := by
  go_enter Tryd.func14, Tryd.ntmps14
  go_wp2
  go_ret
  exact ⟨rfl, rfl⟩
set_option maxHeartbeats 400000 in
theorem refRight_no (n : Int) (w : World) (h : n < 0 ∨ 4294967295 < n) :
    Calls Tryd.prog 14 #[.int .i64 n] w fun e w' => e = .returned (.bool false) ∧ w = w' := by
  rcases h with h | h
  · go_enter Tryd.func14, Tryd.ntmps14
    go_wp2
    go_ret
    exact ⟨rfl, rfl⟩
  · have h0 : 0 ≤ n := by omega
    have h1 : ¬ n ≤ 4294967295 := by omega
    clear h
    go_enter Tryd.func14, Tryd.ntmps14
    go_wp2
    go_ret
    exact ⟨rfl, rfl⟩

set_option maxHeartbeats 400000 in
theorem step_any (s b : Nat) (w : World) (hs : s < 4294967296) (hb : b < 2) :
    Calls Tryd.prog 20 #[.int .i64 s, .int .i64 b] w fun e w' => e = .returned (.int .i64 (bitStep s b : Nat)) ∧ w = w' := by
  have hx : bits .xor .i64 ((s : Int) / 2) 2197175160 = ((s / 2 ^^^ poly : Nat) : Int) := by
    have := i64_xor_nat (s / 2) poly (by omega) (by decide)
    rw [Int.natCast_ediv] at this
    exact this
  by_cases h : (s % 2 + b) % 2 = 1
  · have e : bitStep s b = s / 2 ^^^ poly := by unfold bitStep; rw [if_pos h]
    have E := Lib.hid e
    clear e
    have hh : ((s : Int) % 2 + b) % 2 = 1 := by omega
    clear h
    go_enter Tryd.func20, Tryd.ntmps20
    go_wp2
    go_ret
    exact ⟨by rw [E.out]; rfl, rfl⟩
  · have e : bitStep s b = s / 2 := by unfold bitStep; rw [if_neg h]
    have E := Lib.hid e
    clear e
    have hh : ((s : Int) % 2 + b) % 2 = 0 := by omega
    clear h
    go_enter Tryd.func20, Tryd.ntmps20
    go_wp2
    go_ret
    exact ⟨by rw [E.out]; rfl, rfl⟩
end Go.Proofs.YtllbdbecenhomaaDoor

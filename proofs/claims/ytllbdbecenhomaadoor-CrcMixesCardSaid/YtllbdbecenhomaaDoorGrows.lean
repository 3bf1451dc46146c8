/- The walk of CrcGrows. -/
import Derived.Test.YtllbdbecenhomaaDoorAwake
namespace Go.Proofs.YtllbdbecenhomaaDoor
open Go.RowKit Go.Proofs.CrcMath

/-- what each law comes to -/
def Yes (w : World) (e : Ending) (w' : World) : Prop := e = .returned (.bool true) ∧ Below w.heap.size w w'
theorem awake_yes (w : World) (hT : Hid (Tab w)) (h0 : 0 < w.heap.size) : Calls Tryd.prog 9 #[] w (Yes w) := awake_any w hT h0

set_option maxHeartbeats 800000 in
theorem grows_out (a b : Int) (w : World) (hT : Hid (Tab w)) (h0 : 0 < w.heap.size) (h : a < 0 ∨ 300 < a ∨ b < 0 ∨ 300 < b) :
    Calls Tryd.prog 8 #[.int .i64 a, .int .i64 b] w (Yes w) := by
  by_cases h1 : a < 0
  · clear h
    go_enter Tryd.func8, Tryd.ntmps8
    go_wp2_with fail
    refine (awake_any _ hT h0).mono ?_
    rintro e w' ⟨rfl, hb⟩
    go_wp2
    go_ret
    exact ⟨rfl, hb⟩
  · by_cases h2 : 300 < a
    · clear h
      go_enter Tryd.func8, Tryd.ntmps8
      go_wp2_with fail
      refine (awake_any _ hT h0).mono ?_
      rintro e w' ⟨rfl, hb⟩
      go_wp2
      go_ret
      exact ⟨rfl, hb⟩
    · by_cases h3 : b < 0
      · clear h
        go_enter Tryd.func8, Tryd.ntmps8
        go_wp2_with fail
        refine (awake_any _ hT h0).mono ?_
        rintro e w' ⟨rfl, hb⟩
        go_wp2
        go_ret
        exact ⟨rfl, hb⟩
      · have h4 : 300 < b := by omega
        clear h
        go_enter Tryd.func8, Tryd.ntmps8
        go_wp2_with fail
        refine (awake_any _ hT h0).mono ?_
        rintro e w' ⟨rfl, hb⟩
        go_wp2
        go_ret
        exact ⟨rfl, hb⟩

theorem cast_beq (a b : Nat) : ((a : Int) == (b : Int)) = decide (a = b) := by
  by_cases h : a = b
  · subst h; simp
  · rw [decide_eq_false h, beq_eq_false_iff_ne]; omega

set_option maxHeartbeats 800000 in
theorem grows_in (a b : Nat) (w : World) (hT : Hid (Tab w)) (h0 : 0 < w.heap.size) (ha : a ≤ 300) (hb : b ≤ 300) :
    Calls Tryd.prog 8 #[.int .i64 (a : Int), .int .i64 (b : Int)] w (Yes w) := by
  obtain ⟨x, hx⟩ : ∃ x, shifted all a ^^^ all = x := ⟨_, rfl⟩
  obtain ⟨y, hy⟩ : ∃ x, shifted all b ^^^ all = x := ⟨_, rfl⟩
  obtain ⟨z, hz⟩ : ∃ x, shifted all (a + b) ^^^ all = x := ⟨_, rfl⟩
  have hxl : x < 4294967296 := by rw [← hx]; exact Nat.xor_lt_two_pow (n := 32) (shifted_lt _ _ all_lt) all_lt
  have hyl : y < 4294967296 := by rw [← hy]; exact Nat.xor_lt_two_pow (n := 32) (shifted_lt _ _ all_lt) all_lt
  have hj : shifted x b ^^^ y = z := by rw [← hx, ← hy, ← hz]; exact noughts_join a b
  have hxy : (((x : Int) == (y : Int)) == ((a : Int) == (b : Int))) = true := by
    have : decide (x = y) = decide (a = b) := by
      have := shifted_all_eq ha hb
      rw [← hx, ← hy, decide_eq_decide]
      exact ⟨fun h => this.1 (xor_right_inj' h), fun h => by rw [this.2 h]⟩
    rw [cast_beq, cast_beq, this]; simp
  have c1 := fun W h => noughts_yes a W (by omega) h
  have c2 := fun W h => noughts_yes b W (by omega) h
  have c3 := fun W h => noughts_yes (a + b) W (by omega) h
  have c4 := fun W h => join_yes x y b W hxl hyl (by omega) h
  rw [hx] at c1
  rw [hy] at c2
  rw [hz, Int.natCast_add] at c3
  rw [hj] at c4
  have C1 := Lib.hid c1
  have C2 := Lib.hid c2
  have C3 := Lib.hid c3
  have C4 := Lib.hid c4
  clear c1 c2 c3 c4 hx hy hz hj
  go_enter Tryd.func8, Tryd.ntmps8
  go_wp2_with fail
  refine (C1.out _ hT).mono ?_
  rintro e w' ⟨rfl, rfl⟩
  go_wp2_with fail
  refine (C2.out _ hT).mono ?_
  rintro e w' ⟨rfl, rfl⟩
  go_wp2_with fail
  refine (C3.out _ hT).mono ?_
  rintro e w' ⟨rfl, rfl⟩
  go_wp2_with fail
  refine (C4.out _ hT).mono ?_
  rintro e w' ⟨rfl, rfl⟩
  go_wp2_with fail
  refine (awake_any _ hT h0).mono ?_
  rintro e w' ⟨rfl, hb⟩
  go_wp2
  go_ret
  exact ⟨rfl, hb⟩

theorem grows_any (a b : Int) (w : World) (hT : Hid (Tab w)) (h0 : 0 < w.heap.size) :
    Calls Tryd.prog 8 #[.int .i64 a, .int .i64 b] w (Yes w) := by
  by_cases h : a < 0 ∨ 300 < a ∨ b < 0 ∨ 300 < b
  · exact grows_out a b w hT h0 h
  · obtain ⟨n, rfl⟩ := Int.eq_ofNat_of_zero_le (show 0 ≤ a by omega)
    obtain ⟨m, rfl⟩ := Int.eq_ofNat_of_zero_le (show 0 ≤ b by omega)
    exact grows_in n m w hT h0 (by omega) (by omega)
end Go.Proofs.YtllbdbecenhomaaDoor

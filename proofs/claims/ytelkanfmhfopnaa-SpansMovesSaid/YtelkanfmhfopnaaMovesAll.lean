/- SpansMoves at whatever comes. -/
import Derived.Test.YtelkanfmhfopnaaMoves
namespace Go.Proofs.Ytelkanfmhfopnaa
open Go.RowKit Go.LawEnd

theorem moves_any (A : Option Addr) (cp : Nat) (l : List Sp) (by_ : Int) (w : World) (h : SpArg w A l) (hln : l.length ≤ 9223372036854775807) (hi : ∀ y ∈ l, I64 y) :
    Calls Try.prog 3 #[.slice A l.length cp, .int .i64 by_] w (Yes w) := by
  by_cases h0 : l.length ≤ 40
  · by_cases h1 : 0 ≤ by_
    · by_cases h2 : by_ ≤ 1048576
      · exact moves_main A cp l by_ w h h0 hi h1 h2
      · have d0 : decide ((40 : Int) < (l.length : Int)) = false := decide_eq_false (by omega)
        have d1 : decide (by_ < 0) = false := decide_eq_false (by omega)
        have d2 : decide (1048576 < by_) = true := decide_eq_true (by omega)
        clear h hi
        go_enter Try.func3, Try.ntmps3
        go_wp2_with fail
        refine (awake_any _).mono ?_
        rintro e w' ⟨rfl, hb⟩
        go_wp2
        go_ret
        exact ⟨rfl, hb⟩
    · have d0 : decide ((40 : Int) < (l.length : Int)) = false := decide_eq_false (by omega)
      have d1 : decide (by_ < 0) = true := decide_eq_true (by omega)
      clear h hi
      go_enter Try.func3, Try.ntmps3
      go_wp2_with fail
      refine (awake_any _).mono ?_
      rintro e w' ⟨rfl, hb⟩
      go_wp2
      go_ret
      exact ⟨rfl, hb⟩
  · have d0 : decide ((40 : Int) < (l.length : Int)) = true := decide_eq_true (by omega)
    clear h hi
    go_enter Try.func3, Try.ntmps3
    go_wp2_with fail
    refine (awake_any _).mono ?_
    rintro e w' ⟨rfl, hb⟩
    go_wp2
    go_ret
    exact ⟨rfl, hb⟩
end Go.Proofs.Ytelkanfmhfopnaa

/- SpansTurns at whatever comes. -/
import Derived.Test.YtelkanfmhfopnaaTurns
namespace Go.Proofs.Ytelkanfmhfopnaa
open Go.RowKit Go.LawEnd

theorem turns_any (A : Option Addr) (cp : Nat) (l : List Sp) (from_ at_ : Int) (w : World) (h : SpArg w A l) (hln : l.length ≤ 9223372036854775807) (hi : ∀ y ∈ l, I64 y) :
    Calls Try.prog 4 #[.slice A l.length cp, .int .i64 from_, .int .i64 at_] w (Yes w) := by
  by_cases h0 : 0 < l.length
  · by_cases h1 : l.length ≤ 40
    · exact turns_main A cp l from_ at_ w h h1 h0 hi
    · have d0 : decide ((40 : Int) < (l.length : Int)) = true := decide_eq_true (by omega)
      have d1 : ((l.length : Int) == 0) = false := by rw [beq_eq_false_iff_ne]; omega
      clear h hi
      go_enter Try.func4, Try.ntmps4
      go_wp2_with fail
      refine (awake_any _).mono ?_
      rintro e w' ⟨rfl, hb⟩
      go_wp2
      go_ret
      exact ⟨rfl, hb⟩
  · obtain rfl : l = [] := List.eq_nil_of_length_eq_zero (by omega)
    clear h hi
    go_enter Try.func4, Try.ntmps4
    go_wp2_with fail
    refine (awake_any _).mono ?_
    rintro e w' ⟨rfl, hb⟩
    go_wp2
    go_ret
    exact ⟨rfl, hb⟩
end Go.Proofs.Ytelkanfmhfopnaa

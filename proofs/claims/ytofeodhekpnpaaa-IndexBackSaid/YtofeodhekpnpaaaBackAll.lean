/- IndexBack: a list of calls that is too long, and every list. -/
import Derived.Test.YtofeodhekpnpaaaBack
namespace Go.Proofs.Ytofeodhekpnpaaa
open Go.RowKit Go.LawEnd

set_option maxRecDepth 100000 in
set_option maxHeartbeats 1600000 in
theorem back_long (A : Option Addr) (m cp : Nat) (oa oi os : Int) (od : Bool) (w : World) (hm : 80 < m) (hx : m ≤ maxLen) :
    Calls Try.prog 6 #[.slice A m cp, .agg #[.int .i64 oa, .int .i64 oi, .int .i64 os, .bool od]] w (Yes w) := by
  unfold maxLen at hx
  have HB0 : Hid (Below w.heap.size w (w.alloc (.cells #[.int .i64 oa, .int .i64 oi, .int .i64 os, .bool od] 32))) := (Below.refl _ w).alloc (Nat.le_refl _) _
  go_enter Try.func6, Try.ntmps6
  go_wp2_with fail
  refine (new_yes 12 6 _ (by omega) (by omega) (by omega) (by omega)).mono ?_
  rintro e w1 ⟨x, g, b, rfl, _, _, _, _, hbl⟩
  have HB1 := Lib.hid (keep_call HB0.out hbl)
  clear hbl HB0
  go_wp2_with fail
  refine (awake_any _).mono ?_
  rintro e w2 ⟨rfl, hb2⟩
  have HB2 := Lib.hid (keep_call HB1.out hb2)
  clear hb2
  go_wp2
  go_ret
  exact ⟨rfl, HB2.out⟩
theorem back_any (A : Option Addr) (m cp : Nat) (oa oi os : Int) (od : Bool) (w : World) (hx : m ≤ maxLen)
    (hops : ∀ k, k < m → ∃ b off a i s t, A = some ⟨b, off, none⟩ ∧ b < w.heap.size ∧ w.cell? ⟨b, off + k * 4, none⟩ = some (.int .i64 a) ∧ w.cell? ⟨b, off + k * 4 + 1, none⟩ = some (.int .i64 i) ∧ w.cell? ⟨b, off + k * 4 + 2, none⟩ = some (.int .i64 s) ∧ w.cell? ⟨b, off + k * 4 + 3, none⟩ = some (.bool t)) :
    Calls Try.prog 6 #[.slice A m cp, .agg #[.int .i64 oa, .int .i64 oi, .int .i64 os, .bool od]] w (Yes w) := by
  by_cases hm : m ≤ 80
  · exact back_main A m cp oa oi os od w hm hops
  · exact back_long A m cp oa oi os od w (by omega) hx
end Go.Proofs.Ytofeodhekpnpaaa

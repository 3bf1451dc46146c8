/- IndexCleans: a list of calls that is too long, and every list. -/
import Derived.Test.YtofeodhekpnpaaaCleans
namespace Go.Proofs.Ytofeodhekpnpaaa
open Go.RowKit Go.LawEnd

set_option maxRecDepth 100000 in
set_option maxHeartbeats 1600000 in
theorem cleans_long (A : Option Addr) (m cp : Nat) (bk : Int) (w : World) (hm : 80 < m) (hx : m ≤ maxLen) :
    Calls Try.prog 4 #[.slice A m cp, .int .i64 bk] w (Yes w) := by
  unfold maxLen at hx
  go_enter Try.func4, Try.ntmps4
  go_wp2_with fail
  refine (new_yes 12 6 w (by omega) (by omega) (by omega) (by omega)).mono ?_
  rintro e w1 ⟨x, g, b, rfl, _, _, _, _, hbl⟩
  have HB1 := Lib.hid hbl
  clear hbl
  go_wp2_with fail
  refine (awake_any _).mono ?_
  rintro e w2 ⟨rfl, hb2⟩
  have HB2 := Lib.hid (keep_call HB1.out hb2)
  clear hb2
  go_wp2
  go_ret
  exact ⟨rfl, HB2.out⟩
theorem cleans_any (A : Option Addr) (m cp : Nat) (bk : Int) (w : World) (hx : m ≤ maxLen)
    (hops : ∀ k, k < m → ∃ b off a i s t, A = some ⟨b, off, none⟩ ∧ b < w.heap.size ∧ w.cell? ⟨b, off + k * 4, none⟩ = some (.int .i64 a) ∧ w.cell? ⟨b, off + k * 4 + 1, none⟩ = some (.int .i64 i) ∧ w.cell? ⟨b, off + k * 4 + 2, none⟩ = some (.int .i64 s) ∧ w.cell? ⟨b, off + k * 4 + 3, none⟩ = some (.bool t)) :
    Calls Try.prog 4 #[.slice A m cp, .int .i64 bk] w (Yes w) := by
  by_cases hm : m ≤ 80
  · exact cleans_main A m cp bk w hm hops
  · exact cleans_long A m cp bk w (by omega) hx
end Go.Proofs.Ytofeodhekpnpaaa

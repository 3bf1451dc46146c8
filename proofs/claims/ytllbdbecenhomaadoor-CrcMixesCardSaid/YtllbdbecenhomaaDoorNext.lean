/- The walk of next: a sum behind a byte. -/
import Derived.Test.YtllbdbecenhomaaDoorChecked
import Derived.Test.YtllbdbecenhomaaDoorMath
import Derived.WalkKit
import Derived.WalkSpells
import Derived.WalkLawsBesides
import Derived.Laws.BitsAllLaws
import Derived.Laws.BitsLemmas
import Derived.Lib.Hide
namespace Go.Proofs.YtllbdbecenhomaaDoor
open Go.RowKit Go.Proofs.CrcMath

theorem ofInt_i64 (a : Nat) (ha : a < 9223372036854775808) : (BitVec.ofInt 64 (a : Int)).toNat = a := by
  rw [BitVec.ofInt_natCast, BitVec.toNat_ofNat]; exact Nat.mod_eq_of_lt (by omega)
theorem i64_and_nat (a b : Nat) (ha : a < 9223372036854775808) (hb : b < 9223372036854775808) : bits .and .i64 (a : Int) (b : Int) = ((a &&& b : Nat) : Int) := by
  have hx : a &&& b < 2 ^ 63 := Nat.and_lt_two_pow _ (by omega)
  show IntKind.i64.wrap ((BitVec.ofInt 64 (a : Int) &&& BitVec.ofInt 64 (b : Int)).toNat : Int) = _
  rw [BitVec.toNat_and, ofInt_i64 a ha, ofInt_i64 b hb, IntKind.wrap_i64]
  omega
theorem i64_xor_nat (a b : Nat) (ha : a < 9223372036854775808) (hb : b < 9223372036854775808) : bits .xor .i64 (a : Int) (b : Int) = ((a ^^^ b : Nat) : Int) := by
  have hx : a ^^^ b < 2 ^ 63 := Nat.xor_lt_two_pow (by omega) (by omega)
  show IntKind.i64.wrap ((BitVec.ofInt 64 (a : Int) ^^^ BitVec.ofInt 64 (b : Int)).toNat : Int) = _
  rw [BitVec.toNat_xor, ofInt_i64 a ha, ofInt_i64 b hb, IntKind.wrap_i64]
  omega

theorem tab_lt : ∀ i, i < 16 → tab.getD i 0 < 4294967296 := by decide
/-- the table, as the walk reads it -/
def Tab (w : World) : Prop := ∀ i, i < 16 → w.cell? ⟨0, i, none⟩ = some (.int .i64 (tab.getD i 0 : Nat))

set_option maxHeartbeats 400000 in
theorem next_any (s x : Nat) (w : World) (hs : s < 4294967296) (hx : x < 256) (hT : Hid (Tab w)) :
    Calls Tryd.prog 17 #[.int .i64 s, .int .u8 x] w fun e w' => e = .returned (.int .i64 (next s x : Nat)) ∧ w = w' := by
  have hx1 := i64_xor_nat s x (by omega) (by omega)
  have hlt : s ^^^ x < 4294967296 := Nat.xor_lt_two_pow (n := 32) hs (by omega)
  go_enter Tryd.func17, Tryd.ntmps17
  go_wp2
  clear hx1
  go_loop [0, 9] (fun a i => ∃ k u : Nat, k ≤ 2 ∧ u < 4294967296 ∧ Hid (iter half k (s ^^^ x) = u) ∧ i = .int .i64 k ∧ a = .int .i64 u) (fun _ i => 2 - (intOf i).toNat)
  case atStart => exact ⟨0, s ^^^ x, by omega, hlt, rfl, rfl, rfl⟩
  case round =>
    obtain ⟨k, u, hk, hu, HU, rfl, rfl⟩ := hrel
    by_cases hk2 : k < 2
    · have ha : bits .and .i64 (u : Int) 15 = ((u &&& 15 : Nat) : Int) := i64_and_nat u 15 (by omega) (by omega)
      have hb : u &&& 15 < 16 := Nat.lt_of_le_of_lt Nat.and_le_right (by omega)
      obtain ⟨t, ht⟩ : ∃ t, tab.getD (u &&& 15) 0 = t := ⟨_, rfl⟩
      have HT2 := Lib.hid ht
      have hc := hT.out (u &&& 15) hb
      rw [ht] at hc
      clear ht
      go_wp2
      go_round
      case rel =>
        refine ⟨k + 1, half u, by omega, half_lt u hu, ?_, by go_num, ?_⟩
        · show iter half (k + 1) _ = _
          rw [iter_add, HU.out]; rfl
        · have htl : t < 4294967296 := by rw [← HT2.out]; exact tab_lt _ hb
          have e := i64_xor_nat t (u / 16) (by omega) (by omega)
          rw [Int.natCast_ediv] at e
          rw [show bits .xor .i64 (t : Int) ((u : Int) / 16) = ((t ^^^ (u / 16) : Nat) : Int) from e]
          unfold half
          rw [HT2.out, Nat.shiftRight_eq_div_pow]
      case measure => simp [intOf]; omega
    · go_wp2
      obtain rfl : k = 2 := by omega
      go_ret
      refine ⟨?_, rfl⟩
      rw [← HU.out]; rfl
end Go.Proofs.YtllbdbecenhomaaDoor

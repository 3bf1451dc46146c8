/- The walk of RingChain: every argument. -/
import Derived.Test.YtpfhmkfeneejeaaChain2
namespace Go.Proofs.Ytpfhmkfeneejeaa
open Go.RowKit Go.LawEnd Go.Conc

set_option maxRecDepth 100000 in
set_option maxHeartbeats 3200000 in
theorem chain_any (A : Option Addr) (m cp : Nat) (n a b : Int) (l : List Int) (w : World) (hrow : m ≤ 9223372036854775807) (hl : Hid (l.length = m)) (hrd : Hid (Rd w w.heap.size 1 (.slice A m cp) m (ints l))) :
    Calls Try.prog 6 #[.slice A m cp, .int .i64 n, .agg #[.int .i64 a, .int .i64 b]] w (Yes w) := by
  by_cases hA : a < 1 ∨ 1024 < a
  · by_cases hB : b < 1 ∨ 1024 < b
    · clear hl hrd
      go_enter Try.func6, Try.ntmps6
      go_wp2_with fail
      obtain ⟨w0, hw0⟩ : ∃ x, x = w.alloc (.cells #[.int .i64 a, .int .i64 b] 53) := ⟨_, rfl⟩
      have hb0 : Below w.heap.size w w0 := by rw [hw0]; exact (Below.refl _ w).alloc (Nat.le_refl _) _
      have hc0 : w0.cell? ⟨w.heap.size, 1, none⟩ = some (.int .i64 b) := by rw [hw0, (Blk.new w 53 #[.int .i64 a, .int .i64 b]).cell]; rfl
      have hs0 : w0.heap.size = w.heap.size + 1 := by rw [hw0]; simp
      rw [← hw0]
      have HS0 := Lib.hid hs0
      clear hw0 hs0
      refine (RInt.new_no a w0 hA).mono ?_
      rintro e w' ⟨rfl, rfl⟩
      have B1 := Lib.hid hb0
      clear hb0
      go_wp2_with fail
      refine (RInt.new_no b w0 hB).mono ?_
      rintro e w' ⟨rfl, rfl⟩
      have B2 := B1
      clear B1
      go_wp2_with fail
      refine (awake_any _).mono ?_
      rintro e w8 ⟨rfl, hb8⟩
      have HB8 := Lib.hid (keep_call B2.out hb8)
      clear hb8
      go_wp2
      go_ret
      exact ⟨rfl, HB8.out⟩
    · obtain ⟨n2, rfl⟩ : ∃ k : Nat, b = k := ⟨b.toNat, by omega⟩
      have b1 : 1 ≤ n2 := by omega
      have b2 : n2 ≤ 1024 := by omega
      clear hl hrd
      go_enter Try.func6, Try.ntmps6
      go_wp2_with fail
      obtain ⟨w0, hw0⟩ : ∃ x, x = w.alloc (.cells #[.int .i64 a, .int .i64 (n2 : Int)] 53) := ⟨_, rfl⟩
      have hb0 : Below w.heap.size w w0 := by rw [hw0]; exact (Below.refl _ w).alloc (Nat.le_refl _) _
      have hc0 : w0.cell? ⟨w.heap.size, 1, none⟩ = some (.int .i64 (n2 : Int)) := by rw [hw0, (Blk.new w 53 #[.int .i64 a, .int .i64 (n2 : Int)]).cell]; rfl
      have hs0 : w0.heap.size = w.heap.size + 1 := by rw [hw0]; simp
      rw [← hw0]
      have HS0 := Lib.hid hs0
      clear hw0 hs0
      refine (RInt.new_no a w0 hA).mono ?_
      rintro e w' ⟨rfl, rfl⟩
      have B1 := Lib.hid hb0
      clear hb0
      go_wp2_with fail
      refine (RInt.new_yes n2 w0 b1 b2).mono ?_
      rintro e w2 ⟨rfl, hr, hb, hsz⟩
      have B2 : Hid (Below w.heap.size w w2) := (show _ from keep_call B1.out hb)
      clear hr hb hsz B1
      go_wp2_with fail
      refine (awake_any _).mono ?_
      rintro e w8 ⟨rfl, hb8⟩
      have HB8 := Lib.hid (keep_call B2.out hb8)
      clear hb8
      go_wp2
      go_ret
      exact ⟨rfl, HB8.out⟩
  · obtain ⟨n1, rfl⟩ : ∃ k : Nat, a = k := ⟨a.toNat, by omega⟩
    have a1 : 1 ≤ n1 := by omega
    have a2 : n1 ≤ 1024 := by omega
    clear hA
    by_cases hB : b < 1 ∨ 1024 < b
    · clear hl hrd
      go_enter Try.func6, Try.ntmps6
      go_wp2_with fail
      obtain ⟨w0, hw0⟩ : ∃ x, x = w.alloc (.cells #[.int .i64 (n1 : Int), .int .i64 b] 53) := ⟨_, rfl⟩
      have hb0 : Below w.heap.size w w0 := by rw [hw0]; exact (Below.refl _ w).alloc (Nat.le_refl _) _
      have hc0 : w0.cell? ⟨w.heap.size, 1, none⟩ = some (.int .i64 b) := by rw [hw0, (Blk.new w 53 #[.int .i64 (n1 : Int), .int .i64 b]).cell]; rfl
      have hs0 : w0.heap.size = w.heap.size + 1 := by rw [hw0]; simp
      rw [← hw0]
      have HS0 := Lib.hid hs0
      clear hw0 hs0
      refine (RInt.new_yes n1 w0 a1 a2).mono ?_
      rintro e w1 ⟨rfl, hr, hb, hsz⟩
      have hc1 : w1.cell? ⟨w.heap.size, 1, none⟩ = some (.int .i64 b) := by rw [hb.cell (p := ⟨w.heap.size, 1, none⟩) (by have := HS0.out; show w.heap.size < _; omega), hc0]
      have B1 : Hid (Below w.heap.size w w1) := (show _ from keep_call hb0 hb)
      clear hr hb hsz hc0 hb0
      go_wp2_with fail
      refine (RInt.new_no b w1 hB).mono ?_
      rintro e w' ⟨rfl, rfl⟩
      have B2 := B1
      clear B1
      go_wp2_with fail
      refine (awake_any _).mono ?_
      rintro e w8 ⟨rfl, hb8⟩
      have HB8 := Lib.hid (keep_call B2.out hb8)
      clear hb8
      go_wp2
      go_ret
      exact ⟨rfl, HB8.out⟩
    · obtain ⟨n2, rfl⟩ : ∃ k : Nat, b = k := ⟨b.toNat, by omega⟩
      have b1 : 1 ≤ n2 := by omega
      have b2 : n2 ≤ 1024 := by omega
      by_cases hm : m ≤ 200
      · by_cases hn : n < 1
        · clear hl hrd
          go_enter Try.func6, Try.ntmps6
          go_wp2_with fail
          obtain ⟨w0, hw0⟩ : ∃ x, x = w.alloc (.cells #[.int .i64 (n1 : Int), .int .i64 (n2 : Int)] 53) := ⟨_, rfl⟩
          have hb0 : Below w.heap.size w w0 := by rw [hw0]; exact (Below.refl _ w).alloc (Nat.le_refl _) _
          have hc0 : w0.cell? ⟨w.heap.size, 1, none⟩ = some (.int .i64 (n2 : Int)) := by rw [hw0, (Blk.new w 53 #[.int .i64 (n1 : Int), .int .i64 (n2 : Int)]).cell]; rfl
          have hs0 : w0.heap.size = w.heap.size + 1 := by rw [hw0]; simp
          rw [← hw0]
          have HS0 := Lib.hid hs0
          clear hw0 hs0
          refine (RInt.new_yes n1 w0 a1 a2).mono ?_
          rintro e w1 ⟨rfl, hr, hb, hsz⟩
          have hc1 : w1.cell? ⟨w.heap.size, 1, none⟩ = some (.int .i64 (n2 : Int)) := by rw [hb.cell (p := ⟨w.heap.size, 1, none⟩) (by have := HS0.out; show w.heap.size < _; omega), hc0]
          have B1 : Hid (Below w.heap.size w w1) := (show _ from keep_call hb0 hb)
          clear hr hb hsz hc0 hb0
          go_wp2_with fail
          refine (RInt.new_yes n2 w1 b1 b2).mono ?_
          rintro e w2 ⟨rfl, hr, hb, hsz⟩
          have B2 : Hid (Below w.heap.size w w2) := (show _ from keep_call B1.out hb)
          clear hr hb hsz B1
          go_wp2_with fail
          refine (awake_any _).mono ?_
          rintro e w8 ⟨rfl, hb8⟩
          have HB8 := Lib.hid (keep_call B2.out hb8)
          clear hb8
          go_wp2
          go_ret
          exact ⟨rfl, HB8.out⟩
        · exact chain_main A m cp n1 n2 n l w a1 a2 b1 b2 hm hn hl hrd
      · have hm2 : 200 < m := by omega
        clear hl hrd
        go_enter Try.func6, Try.ntmps6
        go_wp2_with fail
        obtain ⟨w0, hw0⟩ : ∃ x, x = w.alloc (.cells #[.int .i64 (n1 : Int), .int .i64 (n2 : Int)] 53) := ⟨_, rfl⟩
        have hb0 : Below w.heap.size w w0 := by rw [hw0]; exact (Below.refl _ w).alloc (Nat.le_refl _) _
        have hc0 : w0.cell? ⟨w.heap.size, 1, none⟩ = some (.int .i64 (n2 : Int)) := by rw [hw0, (Blk.new w 53 #[.int .i64 (n1 : Int), .int .i64 (n2 : Int)]).cell]; rfl
        have hs0 : w0.heap.size = w.heap.size + 1 := by rw [hw0]; simp
        rw [← hw0]
        have HS0 := Lib.hid hs0
        clear hw0 hs0
        refine (RInt.new_yes n1 w0 a1 a2).mono ?_
        rintro e w1 ⟨rfl, hr, hb, hsz⟩
        have hc1 : w1.cell? ⟨w.heap.size, 1, none⟩ = some (.int .i64 (n2 : Int)) := by rw [hb.cell (p := ⟨w.heap.size, 1, none⟩) (by have := HS0.out; show w.heap.size < _; omega), hc0]
        have B1 : Hid (Below w.heap.size w w1) := (show _ from keep_call hb0 hb)
        clear hr hb hsz hc0 hb0
        go_wp2_with fail
        refine (RInt.new_yes n2 w1 b1 b2).mono ?_
        rintro e w2 ⟨rfl, hr, hb, hsz⟩
        have B2 : Hid (Below w.heap.size w w2) := (show _ from keep_call B1.out hb)
        clear hr hb hsz B1
        go_wp2_with fail
        refine (awake_any _).mono ?_
        rintro e w8 ⟨rfl, hb8⟩
        have HB8 := Lib.hid (keep_call B2.out hb8)
        clear hb8
        go_wp2
        go_ret
        exact ⟨rfl, HB8.out⟩
end Go.Proofs.Ytpfhmkfeneejeaa


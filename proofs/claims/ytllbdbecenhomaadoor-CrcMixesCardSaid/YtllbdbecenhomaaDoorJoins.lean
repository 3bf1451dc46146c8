/- The walk of CrcJoins. -/
import Derived.Test.YtllbdbecenhomaaDoorTells
namespace Go.Proofs.YtllbdbecenhomaaDoor
open Go.RowKit Go.Proofs.CrcMath

theorem made_noughts (n : Nat) : (madeCells #[Value.int .u8 0] n).toList = cellsOf (List.replicate n 0) := by
  apply List.ext_getElem
  · simp [madeCells, cellsOf]
  · intro i h1 h2
    simp [madeCells, cellsOf, Nat.mod_one]

set_option maxHeartbeats 800000 in
theorem joins_mid (a b n : Int) (w : World) (hT : Hid (Tab w)) (h0 : 0 < w.heap.size) (h1 : 300 < n) (h2 : n ≤ 1048576) :
    Calls Tryd.prog 6 #[.int .i64 a, .int .i64 b, .int .i64 n] w (Yes w) := by
  go_enter Tryd.func6, Tryd.ntmps6
  go_wp2_with fail
  refine (awake_any _ hT h0).mono ?_
  rintro e w' ⟨rfl, hb⟩
  go_wp2
  go_ret
  exact ⟨rfl, hb⟩

set_option maxHeartbeats 800000 in
theorem joins_out (a b n : Int) (w : World) (hT : Hid (Tab w)) (h0 : 0 < w.heap.size) (h : n < 0 ∨ 1048576 < n) :
    Calls Tryd.prog 6 #[.int .i64 a, .int .i64 b, .int .i64 n] w (Yes w) := by
  have CJ := Lib.hid (fun W => join_no a b n W (by unfold Fits; omega))
  have CN := Lib.hid (fun W => noughts_no n W h)
  by_cases h1 : n < 0
  · clear h
    have h2 : ¬ 300 < n := by omega
    go_enter Tryd.func6, Tryd.ntmps6
    go_wp2_with fail
    refine (CJ.out _).mono ?_
    rintro e w' ⟨rfl, rfl⟩
    go_wp2_with fail
    refine (CN.out _).mono ?_
    rintro e w' ⟨rfl, rfl⟩
    go_wp2_with fail
    refine (awake_any _ hT h0).mono ?_
    rintro e w' ⟨rfl, hb⟩
    go_wp2
    go_ret
    exact ⟨rfl, hb⟩
  · have h2 : 1048576 < n := by omega
    have h3 : ¬ n ≤ 1048576 := by omega
    clear h
    go_enter Tryd.func6, Tryd.ntmps6
    go_wp2_with fail
    refine (CJ.out _).mono ?_
    rintro e w' ⟨rfl, rfl⟩
    go_wp2_with fail
    refine (CN.out _).mono ?_
    rintro e w' ⟨rfl, rfl⟩
    go_wp2_with fail
    refine (awake_any _ hT h0).mono ?_
    rintro e w' ⟨rfl, hb⟩
    go_wp2
    go_ret
    exact ⟨rfl, hb⟩

set_option maxHeartbeats 1600000 in
theorem joins_wrong (a b : Int) (n : Nat) (w : World) (hT : Hid (Tab w)) (h0 : 0 < w.heap.size) (h1 : n ≤ 300) (h : a < 0 ∨ 4294967295 < a ∨ b < 0 ∨ 4294967295 < b) :
    Calls Tryd.prog 6 #[.int .i64 a, .int .i64 b, .int .i64 (n : Int)] w (Yes w) := by
  have CJ := Lib.hid (fun W => join_no a b n W (by unfold Fits; omega))
  obtain ⟨m, hm⟩ : ∃ m, shifted all n ^^^ all = m := ⟨_, rfl⟩
  have cn := fun W h => noughts_yes n W (by omega) h
  rw [hm] at cn
  have CN := Lib.hid cn
  have hsm : sum (List.replicate n 0) = m := hm
  have SM := Lib.hid hsm
  clear hm cn hsm
  obtain ⟨i0, hi, hz0, hz1, hz2⟩ := info_parts infoByte
  go_enter Tryd.func6, Tryd.ntmps6
  go_wp2_with fail
  refine (CJ.out _).mono ?_
  rintro e w' ⟨rfl, rfl⟩
  go_wp2_with fail
  refine (CN.out _ hT).mono ?_
  rintro e w' ⟨rfl, rfl⟩
  go_wp2_with (at_make; refine wpList_make_full _ rfl _ _ 22 rfl 0 5 i0 (.int .u8 0) 1 Tryd.underlying22 hi hz0 hz1 .i64 .i64 _ _ n rfl rfl rfl rfl ?d1 ?d2 (Nat.zero_le _) ?_)
  case d1 => rw [hz2]; omega
  case d2 => unfold maxLen; omega
  intro w1 hown hgrow
  rw [made_noughts] at hown
  have hb1 : Below w.heap.size w w1 := (Below.refl _ _).grown hgrow (Nat.le_refl _) (fun j hj => by cases hj)
  have B1 := Lib.hid (bytes_own hown (fun x hx => by rw [List.eq_of_mem_replicate hx]; omega))
  have HB := Lib.hid hb1
  have T1 := Lib.hid (hT.out.below hb1 h0)
  have hs1 := hb1.size
  clear hown hgrow hb1
  go_wp2_with fail
  refine (refSum_any _ (List.replicate n 0) _ _ (by simp; omega) B1.out).mono ?_
  rintro e w2 ⟨rfl, rfl⟩
  rw [SM.out]
  by_cases ha : a < 0 ∨ 4294967295 < a
  · have CR := Lib.hid (fun W => refRight_no a W ha)
    clear h ha
    go_wp2_with fail
    refine (CR.out _).mono ?_
    rintro e w' ⟨rfl, rfl⟩
    go_wp2_with fail
    refine (awake_any _ T1 (by omega)).mono ?_
    rintro e w' ⟨rfl, hb⟩
    go_wp2
    go_ret
    exact ⟨rfl, keep_call HB.out hb⟩
  · have CR := Lib.hid (fun W => refRight_yes a W (by omega) (by omega))
    have CS := Lib.hid (fun W => refRight_no b W (by omega))
    clear h ha
    go_wp2_with fail
    refine (CR.out _).mono ?_
    rintro e w' ⟨rfl, rfl⟩
    go_wp2_with fail
    refine (CS.out _).mono ?_
    rintro e w' ⟨rfl, rfl⟩
    go_wp2_with fail
    refine (awake_any _ T1 (by omega)).mono ?_
    rintro e w' ⟨rfl, hb⟩
    go_wp2
    go_ret
    exact ⟨rfl, keep_call HB.out hb⟩

set_option maxHeartbeats 1600000 in
theorem joins_right (a b n : Nat) (w : World) (hT : Hid (Tab w)) (h0 : 0 < w.heap.size) (h1 : n ≤ 300) (ha : a < 4294967296) (hb : b < 4294967296) :
    Calls Tryd.prog 6 #[.int .i64 (a : Int), .int .i64 (b : Int), .int .i64 (n : Int)] w (Yes w) := by
  obtain ⟨q, hq⟩ : ∃ q, shifted a n = q := ⟨_, rfl⟩
  have hql : q < 4294967296 := by rw [← hq]; exact shifted_lt a n ha
  have hgo : go a (List.replicate n 0) = q := hq
  have hx := i64_xor_nat q b (by omega) (by omega)
  have cj := fun W h => join_yes a b n W ha hb (by omega) h
  rw [hq] at cj
  have CJ := Lib.hid cj
  have GQ := Lib.hid hgo
  obtain ⟨m, hm⟩ : ∃ m, shifted all n ^^^ all = m := ⟨_, rfl⟩
  have cn := fun W h => noughts_yes n W (by omega) h
  rw [hm] at cn
  have CN := Lib.hid cn
  have hsm : sum (List.replicate n 0) = m := hm
  have SM := Lib.hid hsm
  clear hm cn hsm hq cj hgo
  obtain ⟨i0, hi, hz0, hz1, hz2⟩ := info_parts infoByte
  go_enter Tryd.func6, Tryd.ntmps6
  go_wp2_with fail
  refine (CJ.out _ hT).mono ?_
  rintro e w' ⟨rfl, rfl⟩
  go_wp2_with fail
  refine (CN.out _ hT).mono ?_
  rintro e w' ⟨rfl, rfl⟩
  go_wp2_with (at_make; refine wpList_make_full _ rfl _ _ 22 rfl 0 5 i0 (.int .u8 0) 1 Tryd.underlying22 hi hz0 hz1 .i64 .i64 _ _ n rfl rfl rfl rfl ?d1 ?d2 (Nat.zero_le _) ?_)
  case d1 => rw [hz2]; omega
  case d2 => unfold maxLen; omega
  intro w1 hown hgrow
  rw [made_noughts] at hown
  have hb1 : Below w.heap.size w w1 := (Below.refl _ _).grown hgrow (Nat.le_refl _) (fun j hj => by cases hj)
  have B1 := Lib.hid (bytes_own hown (fun x hx => by rw [List.eq_of_mem_replicate hx]; omega))
  have HB := Lib.hid hb1
  have T1 := Lib.hid (hT.out.below hb1 h0)
  have hs1 := hb1.size
  clear hown hgrow hb1
  go_wp2_with fail
  refine (refSum_any _ (List.replicate n 0) _ _ (by simp; omega) B1.out).mono ?_
  rintro e w2 ⟨rfl, rfl⟩
  rw [SM.out]
  have CR := Lib.hid (fun (a : Nat) W (ha : a < 4294967296) => refRight_yes (a : Int) W (by omega) (by omega))
  go_wp2_with fail
  refine (CR.out a _ ha).mono ?_
  rintro e w' ⟨rfl, rfl⟩
  go_wp2_with fail
  refine (CR.out b _ hb).mono ?_
  rintro e w' ⟨rfl, rfl⟩
  go_wp2_with fail
  refine (refGo_any a _ (List.replicate n 0) _ _ ha (by simp; omega) B1.out).mono ?_
  rintro e w' ⟨rfl, rfl⟩
  rw [GQ.out]
  go_wp2_with fail
  refine (awake_any _ T1 (by omega)).mono ?_
  rintro e w' ⟨rfl, hb⟩
  go_wp2
  go_ret
  exact ⟨rfl, keep_call HB.out hb⟩

theorem joins_any (a b n : Int) (w : World) (hT : Hid (Tab w)) (h0 : 0 < w.heap.size) :
    Calls Tryd.prog 6 #[.int .i64 a, .int .i64 b, .int .i64 n] w (Yes w) := by
  by_cases h : n < 0 ∨ 1048576 < n
  · exact joins_out a b n w hT h0 h
  · by_cases h1 : 300 < n
    · exact joins_mid a b n w hT h0 h1 (by omega)
    · obtain ⟨m, rfl⟩ := Int.eq_ofNat_of_zero_le (show 0 ≤ n by omega)
      by_cases h2 : a < 0 ∨ 4294967295 < a ∨ b < 0 ∨ 4294967295 < b
      · exact joins_wrong a b m w hT h0 (by omega) h2
      · obtain ⟨x, rfl⟩ := Int.eq_ofNat_of_zero_le (show 0 ≤ a by omega)
        obtain ⟨y, rfl⟩ := Int.eq_ofNat_of_zero_le (show 0 ≤ b by omega)
        exact joins_right x y m w hT h0 (by omega) (by omega) (by omega)
end Go.Proofs.YtllbdbecenhomaaDoor

/- The walk of RingTurns. -/
import Derived.Test.YtpfhmkfeneejeaaAwake
namespace Go.Proofs.Ytpfhmkfeneejeaa
open Go.RowKit Go.LawEnd Go.Conc

def rot (l : List Int) (k : Nat) : List Int := l.drop (k % l.length) ++ l.take (k % l.length)
theorem rot_length (l : List Int) (k : Nat) (h : 0 < l.length) : (rot l k).length = l.length := by
  have := Nat.mod_lt k h
  unfold rot
  rw [List.length_append, List.length_drop, List.length_take]; omega
theorem rot_cons (l : List Int) (k : Nat) (h : k % l.length < l.length) : rot l k = l[k % l.length]'h :: (l.drop (k % l.length + 1) ++ l.take (k % l.length)) := by
  rw [rot, List.drop_eq_getElem_cons h]; rfl
theorem rot_next (l : List Int) (k : Nat) (h : k % l.length < l.length) : (l.drop (k % l.length + 1) ++ l.take (k % l.length)) ++ [l[k % l.length]'h] = rot l (k + 1) := by
  rw [List.append_assoc, ← List.take_succ_eq_append_getElem h, rot]
  by_cases hk : k % l.length + 1 = l.length
  · have : (k + 1) % l.length = 0 := by rw [Nat.add_mod]; by_cases h1 : l.length = 1; (rw [h1]; omega); (rw [Nat.mod_eq_of_lt (show 1 < l.length by omega), hk, Nat.mod_self])
    rw [this, hk]; simp
  · have : (k + 1) % l.length = k % l.length + 1 := by
      rw [Nat.add_mod]
      by_cases h1 : l.length = 1
      · omega
      · rw [Nat.mod_eq_of_lt (show 1 < l.length by omega), Nat.mod_eq_of_lt (by omega)]
    rw [this]

structure TInv (w wr : World) (p c n : Nat) (q : List Int) : Prop where
  ring : Ring 76 wr p c n (ints q) false
  below : Below w.heap.size w wr

set_option maxHeartbeats 3200000 in
theorem turns_main (A : Option Addr) (n cp t : Nat) (l : List Int) (w : World) (h1 : 1 ≤ n) (h2 : n ≤ 60) (ht : t ≤ 200) (hl : Hid (l.length = n)) (hrd : Hid (Rd w w.heap.size 1 (.slice A n cp) n (ints l))) :
    Calls Try.prog 5 #[.slice A n cp, .int .i64 (t : Int)] w (Yes w) := by
  go_enter Try.func5, Try.ntmps5
  go_wp2_with fail
  refine (RInt.new_yes n w h1 (by omega)).mono ?_
  rintro e w1 ⟨rfl, hr, hb, hsz⟩
  obtain ⟨p, hp⟩ : ∃ p, p = w.heap.size + 1 := ⟨_, rfl⟩
  obtain ⟨c, hc⟩ : ∃ c, c = w.heap.size := ⟨_, rfl⟩
  rw [← hp, ← hc] at hr
  rw [← hp]
  have hpl : w.heap.size ≤ p := by omega
  have hcl : w.heap.size ≤ c := by omega
  have R1 := Lib.hid hr
  have B1 := Lib.hid hb
  clear hr hb hp hc hsz
  have HX : Hid (∀ k (h : k < n), ∃ b off x, A = some ⟨b, off, none⟩ ∧ l[k]? = some x ∧ ∀ W : World, Below w.heap.size w W → W.cell? ⟨b, off + k, none⟩ = some (.int .i64 x)) := by
    intro k h
    obtain ⟨b, off, rfl, hbl, hkl, hcell⟩ := hrd.out.at_ h
    refine ⟨b, off, l[k]'(by have := hl.out; omega), rfl, List.getElem?_eq_getElem _, fun W hW => ?_⟩
    rw [hW.cell (p := ⟨b, off + k, none⟩) hbl, hcell]; simp [ints]
  go_wp2_with fail
  go_loopw [8] (fun i wr => ∃ k : Nat, k ≤ n ∧ i = .int .i64 k ∧ TInv w wr p c n (l.take k)) (fun i _ => n - (intOf i).toNat)
  case atStart => exact ⟨0, by omega, rfl, by simpa [ints] using R1.out, B1.out⟩
  case round =>
    clear R1 B1
    obtain ⟨k, hk, rfl, HI⟩ := hrel
    have HR := Lib.hid HI.ring
    have HB := Lib.hid HI.below
    clear HI
    by_cases hkn : k < n
    · obtain ⟨b, off, x, rfl, hx, hcell⟩ := HX.out k hkn
      have hcx := hcell _ HB.out
      have HT : Hid (l.take (k + 1) = l.take k ++ [x]) := by
        show _ = _
        rw [List.take_add_one, hx]; rfl
      clear hcell hx
      go_wp2_with fail
      refine (RInt.put_room x HR (by rw [ints_length, List.length_take]; omega)).mono ?_
      rintro e w2 ⟨rfl, hr2, hch2, hs2⟩
      have HI2 : Hid (TInv w w2 p c n (l.take (k + 1))) := ⟨by rw [HT.out, RInt.ints_snoc]; exact hr2, Ch.after HB.out hch2 HB.out.size (fun j hj => by omega)⟩
      clear hr2 hch2 hs2 HR HB
      go_wp2
      go_roundw
      case rel => exact ⟨k + 1, by omega, by go_num, HI2.out⟩
      case measure => simp [intOf]; omega
    · have hkl : l.take k = l := List.take_of_length_le (by have := hl.out; omega)
      rw [hkl] at HR
      have HR0 : Hid (Ring 76 wr p c n (ints (rot l 0)) false) := by
        show Ring _ _ _ _ _ _ _
        have : rot l 0 = l := by simp [rot]
        rw [this]; exact HR.out
      clear HR hkl
      go_wp2_with fail
      go_loopw [9] (fun i wr => ∃ k : Nat, k ≤ t ∧ i = .int .i64 k ∧ TInv w wr p c n (rot l k)) (fun i _ => t - (intOf i).toNat)
      case atStart => exact ⟨0, by omega, rfl, HR0.out, HB.out⟩
      case round =>
        clear HR0 HB
        obtain ⟨j, hj, rfl, HI⟩ := hrel
        have HR := Lib.hid HI.ring
        have HB := Lib.hid HI.below
        clear HI
        have hm : j % n < n := Nat.mod_lt _ (by omega)
        by_cases hjt : j < t
        · obtain ⟨b, off, x, rfl, hx, hcell⟩ := HX.out (j % n) hm
          have hxl : ∃ r, rot l j = x :: r ∧ r ++ [x] = rot l (j + 1) := by
            have e := hl.out
            have h' : j % l.length < l.length := by rw [e]; exact hm
            have hx' : l[j % l.length]'h' = x := by
              have := hx
              rw [← e, List.getElem?_eq_getElem h'] at this
              injection this
            exact ⟨_, by rw [rot_cons l j h', hx'], by rw [← hx', rot_next]⟩
          obtain ⟨r, hr1, hr2⟩ := hxl
          have hlr : r.length + 1 = n := by
            have := rot_length l j (by have := hl.out; omega)
            rw [hr1] at this
            simpa [hl.out] using this
          have HN := Lib.hid hr2
          rw [hr1] at HR
          clear hr1 hr2 hx
          go_wp2_with fail
          refine (RInt.room_open HR (by simp [ints_length]; omega) (by omega)).mono ?_
          rintro e w2 ⟨rfl, hb2, hs2⟩
          have hz : n - (ints (x :: r)).length = 0 := by simp [ints_length]; omega
          rw [hz]
          have HR2 : Hid (Ring 76 w2 p c n (ints (x :: r)) false) := HR.out.below hb2 HR.out.plt HR.out.clt
          have HB2 := Lib.hid (keep_call HB.out hb2)
          clear hz hb2 HR HB hs2
          go_wp2_with fail
          refine (RInt.put_full 7 HR2 (by simp [ints_length]; omega)).mono ?_
          rintro e w' ⟨rfl, rfl⟩
          go_wp2_with fail
          refine (RInt.take_some x (q := ints r) HR2).mono ?_
          rintro e w3 ⟨rfl, hr3, hch3, hs3⟩
          have HR3 := Lib.hid hr3
          have HB3 := Lib.hid (Ch.after HB2.out hch3 HB2.out.size (fun j hj => by omega))
          have hcx := hcell _ HB3.out
          clear hr3 hch3 hs3 HR2 HB2 hcell
          go_wp2_with fail
          refine (RInt.put_room x HR3.out (by rw [ints_length]; omega)).mono ?_
          rintro e w4 ⟨rfl, hr4, hch4, hs4⟩
          have HI4 : Hid (TInv w w4 p c n (rot l (j + 1))) := ⟨by rw [← HN.out, RInt.ints_snoc]; exact hr4, Ch.after HB3.out hch4 HB3.out.size (fun j hj => by omega)⟩
          clear hr4 hch4 hs4 HB3 HR3
          go_wp2
          go_roundw
          case rel => exact ⟨j + 1, by omega, by go_num, HI4.out⟩
          case measure => simp [intOf]; omega
        · have hjt2 : j = t := by omega
          subst hjt2
          obtain ⟨b, off, x, rfl, hx, hcell⟩ := HX.out (j % n) hm
          have hxl : ∃ r, rot l j = x :: r := by
            have e := hl.out
            have h' : j % l.length < l.length := by rw [e]; exact hm
            have hx' : l[j % l.length]'h' = x := by
              have := hx
              rw [← e, List.getElem?_eq_getElem h'] at this
              injection this
            exact ⟨_, by rw [rot_cons l j h', hx']⟩
          obtain ⟨r, hr1⟩ := hxl
          have hlr : r.length + 1 = n := by
            have := rot_length l j (by have := hl.out; omega)
            rw [hr1] at this
            simpa [hl.out] using this
          rw [hr1] at HR
          clear hr1 hx
          go_wp2_with fail
          refine (RInt.take_some x (q := ints r) HR).mono ?_
          rintro e w3 ⟨rfl, hr3, hch3, hs3⟩
          have HR3 := Lib.hid hr3
          have HB3 := Lib.hid (Ch.after HB.out hch3 HB.out.size (fun j hj => by omega))
          have hcx := hcell _ HB3.out
          clear hr3 hch3 hs3 HR HB hcell
          go_wp2_with fail
          refine (RInt.len_any HR3).mono ?_
          rintro e w' ⟨rfl, rfl⟩
          have hz : ((ints r).length : Int) = (n : Int) - 1 := by rw [ints_length]; omega
          rw [hz]
          clear hz
          go_wp2_with fail
          refine (awake_any _).mono ?_
          rintro e w6 ⟨rfl, hb6⟩
          have HB6 := Lib.hid (keep_call HB3.out hb6)
          clear hb6
          go_wp2
          go_ret
          exact ⟨rfl, HB6.out⟩

set_option maxHeartbeats 1600000 in
theorem turns_any (A : Option Addr) (n cp : Nat) (t : Int) (l : List Int) (w : World) (hrow : n ≤ 9223372036854775807) (hl : Hid (l.length = n)) (hrd : Hid (Rd w w.heap.size 1 (.slice A n cp) n (ints l))) :
    Calls Try.prog 5 #[.slice A n cp, .int .i64 t] w (Yes w) := by
  by_cases h1 : n < 1
  · go_enter Try.func5, Try.ntmps5
    go_wp2_with fail
    refine (awake_any _).mono ?_
    rintro e w6 ⟨rfl, hb6⟩
    go_wp2
    go_ret
    exact ⟨rfl, hb6⟩
  · by_cases h2 : 60 < n
    · go_enter Try.func5, Try.ntmps5
      go_wp2_with fail
      refine (awake_any _).mono ?_
      rintro e w6 ⟨rfl, hb6⟩
      go_wp2
      go_ret
      exact ⟨rfl, hb6⟩
    · by_cases h3 : t < 0
      · go_enter Try.func5, Try.ntmps5
        go_wp2_with fail
        refine (awake_any _).mono ?_
        rintro e w6 ⟨rfl, hb6⟩
        go_wp2
        go_ret
        exact ⟨rfl, hb6⟩
      · by_cases h4 : 200 < t
        · go_enter Try.func5, Try.ntmps5
          go_wp2_with fail
          refine (awake_any _).mono ?_
          rintro e w6 ⟨rfl, hb6⟩
          go_wp2
          go_ret
          exact ⟨rfl, hb6⟩
        · obtain ⟨k, rfl⟩ : ∃ k : Nat, t = k := ⟨t.toNat, by omega⟩
          exact turns_main A n cp k l w (by omega) (by omega) (by omega) hl hrd
end Go.Proofs.Ytpfhmkfeneejeaa

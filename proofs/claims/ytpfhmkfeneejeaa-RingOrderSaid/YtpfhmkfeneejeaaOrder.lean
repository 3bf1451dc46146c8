/- The walk of RingOrder. -/
import Derived.Test.YtpfhmkfeneejeaaAwake
namespace Go.Proofs.Ytpfhmkfeneejeaa
open Go.RowKit Go.LawEnd Go.Conc

/-- a ring, and a row of the law's own: an append to the row leaves the ring. -/
theorem ring_append {w1 w2 : World} {p c cap B k g m cp : Nat} {v : Value} {cl : Bool} {xs ys q : List Value} {o : Obj} (hr : Ring 76 w1 p c cap q cl) (ho : w1.ownsRow B 3 1 v k xs) (hg : (w1.alloc o).grownBy w2 v.ownBlock)
    (_h : w2.ownsRow B 3 1 (.slice (some ⟨g, 0, none⟩) m cp) m ys) : Ring 76 w2 p c cap q cl := by
  have N1 := RInt.own_not_chan ho hr
  have N2 := RInt.own_not_head ho hr
  refine (hr.below ((Below.refl w1.heap.size w1).alloc (Nat.le_refl _) o) hr.plt hr.clt).ch (Ch.grownBy hg) (fun h => ?_) (fun h => ?_)
  · rcases N2 with n | n
    · rw [n] at h; cases h
    · exact n h
  · rcases N1 with n | n
    · rw [n] at h; cases h
    · exact n h
theorem own_ring {w w1 : World} {p c cap B k : Nat} {v : Value} {cl : Bool} {xs q : List Value} (ho : w.ownsRow B 3 1 v k xs) (hr : Ring 76 w p c cap q cl) (hc : Ch (fun j => j = c) w w1) : w1.ownsRow B 3 1 v k xs :=
  ho.kept (Ch.toGrown hc) (RInt.own_not_chan ho hr)
theorem below_append {w w1 w2 : World} {v : Value} {k : Nat} {xs : List Value} {o : Obj} (hb : Below w.heap.size w w1) (ho : w1.ownsRow w.heap.size 3 1 v k xs) (hg : (w1.alloc o).grownBy w2 v.ownBlock) : Below w.heap.size w w2 :=
  (hb.alloc hb.size o).grown hg (by have := hb.size; simp; omega) (fun j hj => (ho.lt j hj).1)

structure In1 (w wr : World) (p c n : Nat) (l : List Int) (k : Nat) (v : Value) : Prop where
  own : wr.ownsRow w.heap.size 3 1 v (min k n) (ints (l.take (min k n)))
  ring : Ring 76 wr p c n (ints (l.take (min k n))) false
  below : Below w.heap.size w wr
structure In2 (w wr : World) (p c n : Nat) (l : List Int) (cl : Bool) (k : Nat) (u v : Value) : Prop where
  want : wr.ownsRow w.heap.size 3 1 u l.length (ints l)
  got : wr.ownsRow w.heap.size 3 1 v k (ints (l.take k))
  apart : Ap v u
  ring : Ring 76 wr p c n (ints (l.drop k)) cl
  below : Below w.heap.size w wr

theorem own_keep {w w1 : World} {B k : Nat} {v : Value} {xs : List Value} {S : Nat → Prop} (ho : w.ownsRow B 3 1 v k xs) (hc : Ch S w w1) (hn : ∀ b, v.ownBlock = some b → ¬ S b) : w1.ownsRow B 3 1 v k xs := by
  refine ⟨ho.1, ?_⟩
  rcases ho.2 with h | ⟨g, cap, cur, rfl, hb, hg, rest⟩
  · exact .inl h
  · exact .inr ⟨g, cap, cur, rfl, hb, by rw [hc.block g (Array.getElem?_eq_some_iff.1 hg).1 (hn g rfl)]; exact hg, rest⟩
theorem own_close {w w1 : World} {p c cap B k : Nat} {v : Value} {cl : Bool} {xs q : List Value} (ho : w.ownsRow B 3 1 v k xs) (hr : Ring 76 w p c cap q cl) (hc : Ch (fun j => j = p ∨ j = c) w w1) : w1.ownsRow B 3 1 v k xs := by
  have N1 := RInt.own_not_chan ho hr
  have N2 := RInt.own_not_head ho hr
  refine own_keep ho hc (fun b hb => ?_)
  rw [hb] at N1 N2
  rintro (rfl | rfl) <;> simp at N1 N2

set_option maxHeartbeats 3200000 in
theorem order_main (A : Option Addr) (m cp n : Nat) (l : List Int) (shut : Bool) (w : World) (h1 : 1 ≤ n) (h2 : n ≤ 1024) (hm : m ≤ 200) (hl : Hid (l.length = m)) (hrd : Hid (Rd w w.heap.size 1 (.slice A m cp) m (ints l))) :
    Calls Try.prog 4 #[.slice A m cp, .int .i64 (n : Int), .bool shut] w (Yes w) := by
  obtain ⟨i0, hi, hz0, hz1, hz2⟩ := info_parts RInt.infoRow
  go_enter Try.func4, Try.ntmps4
  go_wp2_with fail
  refine (RInt.new_yes n w h1 h2).mono ?_
  rintro e w1 ⟨rfl, hr, hb, hsz⟩
  obtain ⟨p, hp⟩ : ∃ p, p = w.heap.size + 1 := ⟨_, rfl⟩
  obtain ⟨c, hc⟩ : ∃ c, c = w.heap.size := ⟨_, rfl⟩
  rw [← hp, ← hc] at hr
  rw [← hp]
  have hpl : w.heap.size ≤ p := by omega
  have hcl : w.heap.size ≤ c := by omega
  have R1 := Lib.hid hr
  have B1 := Lib.hid hb
  clear hr hb hp hc hsz
  go_wp2_with fail
  go_loopw [9, 10] (fun v i wr => ∃ k : Nat, k ≤ m ∧ i = .int .i64 k ∧ In1 w wr p c n l k v) (fun _ i _ => m - (intOf i).toNat)
  case atStart => exact ⟨0, by omega, rfl, by simpa [ints] using World.ownsRow_nil w1 w.heap.size 3 1, by simpa [ints] using R1.out, B1.out⟩
  case round =>
    obtain ⟨k, hk, rfl, HI⟩ := hrel
    by_cases hkm : k < m
    · obtain ⟨b, off, rfl, hbl, hkl, hcell⟩ := hrd.out.at_ hkm
      obtain ⟨x, hx⟩ : ∃ x, l[k]'(by have := hl.out; omega) = x := ⟨_, rfl⟩
      have HC : Hid (∀ W : World, Below w.heap.size w W → W.cell? ⟨b, off + k, none⟩ = some (.int .i64 x)) := fun W hW => by
        rw [hW.cell (p := ⟨b, off + k, none⟩) hbl, hcell, ← hx]; simp [ints]
      have hcx := HC.out wr HI.below
      have HX := Lib.hid hx
      clear hx hcell hkl
      have HR := Lib.hid HI.ring
      have HB := Lib.hid HI.below
      have HO := HI.own
      clear HI
      by_cases hkn : k < n
      · have hmin : min k n = k := by omega
        have hmin' : min (k + 1) n = k + 1 := by omega
        rw [hmin] at HO HR
        have HM := Lib.hid hmin'
        clear hmin hmin'
        go_wp2_with fail
        refine (RInt.put_room x HR.out (by rw [ints_length, List.length_take]; omega)).mono ?_
        rintro e w2 ⟨rfl, hr2, hch2, hs2⟩
        have HO2 := own_ring HO HR.out hch2
        have HR2 := Lib.hid hr2
        have HB2 := Lib.hid (Ch.after HB.out hch2 HB.out.size (fun j hj => by omega))
        obtain ⟨Av, cv, rfl⟩ := (Rd.of_own HO2).form
        clear hr2 hch2 hs2 HO HB HR
        have hcx2 := HC.out w2 HB2.out
        clear hcx
        go_wp2_with (at_builtin; go_must (refine wpList_append_lies _ rfl (.tmp 72) (.tmp 77) 42 rfl w.heap.size 3 i0 (.int .i64 0) 1 8 Try.underlying42 hi hz0 hz1 hz2 (by rfl) (by decide) _ _ _ (by rfl) (HO2.alloc _) ⟨w2.heap.size, 0, none⟩ 1 1 [.int .i64 x] (by rfl) (by rfl) (cell_one_new _ _ _) (by intro u hu; simp at hu; subst hu; rfl) (by decide) (by unfold maxLen; omega) (by omega) (by have := HB2.out.size; simp; omega) (w2.heap.size + 1) (by simp) ?_))
        intro g3 cap3 w3 ho3 hg3 hat3 hlt3
        have HI3 : Hid (In1 w w3 p c n l (k + 1) (.slice (some ⟨g3, 0, none⟩) (k + 1) cap3)) := by
          have ht : l.take (k + 1) = l.take k ++ [x] := by rw [← HX.out]; exact List.take_succ_eq_append_getElem (by have := hl.out; omega)
          refine ⟨?_, ?_, below_append HB2.out HO2 hg3⟩
          · rw [HM.out, ht, RInt.ints_snoc]; exact ho3
          · have := ring_append HR2.out HO2 hg3 ho3
            rw [HM.out, ht, RInt.ints_snoc]; exact this
        clear ho3 hg3 hat3 hlt3 HO2 HB2 HR2 HX hcx2
        go_wp2
        go_roundw
        case rel => exact ⟨k + 1, by omega, by go_num, HI3.out⟩
        case measure => simp [intOf]; omega
      · have hmin : min k n = n := by omega
        have hmin' : min (k + 1) n = n := by omega
        rw [hmin] at HO HR
        have HM := Lib.hid hmin'
        obtain ⟨Av, cv, rfl⟩ := (Rd.of_own HO).form
        have HO2 := Lib.hid HO
        clear hmin hmin' HO
        have hnk : n ≤ k := by omega
        go_wp2_with fail
        refine (RInt.put_full x HR.out (by rw [ints_length, List.length_take]; have := hl.out; omega)).mono ?_
        rintro e w' ⟨rfl, rfl⟩
        go_wp2
        go_roundw
        case rel => exact ⟨k + 1, by omega, by go_num, by rw [HM.out]; exact HO2.out, by rw [HM.out]; exact HR.out, HB.out⟩
        case measure => simp [intOf]; omega
    · have hkm2 : k = m := by omega
      obtain ⟨L, hL⟩ : ∃ L, l.take (min k n) = L := ⟨_, rfl⟩
      have hLl : L.length = min k n := by rw [← hL, List.length_take]; have := hl.out; omega
      have HO := HI.own
      have HR := HI.ring
      rw [hL, ← hLl] at HO
      rw [hL] at HR
      have hLn : L.length ≤ n := by omega
      have hL2 : L.length ≤ 200 := by omega
      have HB := Lib.hid HI.below
      have HR2 := Lib.hid HR
      obtain ⟨Av, cv, rfl⟩ := (Rd.of_own HO).form
      have HO2 := Lib.hid HO
      clear HI HO HR hL hLl hkm2
      cases shut
      · go_wp2_with fail
        go_loopw [12, 13] (fun v i wr => ∃ k : Nat, k ≤ L.length ∧ i = .int .i64 k ∧ In2 w wr p c n L false k (.slice Av L.length cv) v) (fun _ i _ => L.length - (intOf i).toNat)
        case atStart => exact ⟨0, by omega, rfl, HO2.out, by simpa [ints] using World.ownsRow_nil _ w.heap.size 3 1, Ap.nil_ _, by simpa using HR2.out, HB.out⟩
        case round =>
          clear HO2 HR2 HB
          obtain ⟨k, hk, rfl, HI⟩ := hrel
          by_cases hkm : k < L.length
          · obtain ⟨x, hx⟩ : ∃ x, L[k]'hkm = x := ⟨_, rfl⟩
            have hd : L.drop k = x :: L.drop (k + 1) := by rw [← hx]; exact List.drop_eq_getElem_cons hkm
            have HT : Hid (L.take (k + 1) = L.take k ++ [x]) := by show _ = _; rw [← hx]; exact List.take_succ_eq_append_getElem hkm
            have HR := Lib.hid HI.ring
            rw [hd] at HR
            have HI1 := Lib.hid HI
            clear HI hx hd
            go_wp2_with fail
            refine (RInt.take_some x (q := ints (L.drop (k + 1))) HR).mono ?_
            rintro e w3 ⟨rfl, hr3, hch3, hs3⟩
            have HO3 := own_ring HI1.out.got HR.out hch3
            have HW3 := own_ring HI1.out.want HR.out hch3
            have HR3 := Lib.hid hr3
            have HB3 := Lib.hid (Ch.after HI1.out.below hch3 HI1.out.below.size (fun j hj => by omega))
            obtain ⟨Ag, cg, rfl⟩ := (Rd.of_own HO3).form
            have HAp := Lib.hid HI1.out.apart
            clear hr3 hch3 hs3 HR HI1
            go_wp2_with (at_builtin; go_must (refine wpList_append_lies _ rfl (.tmp 98) (.tmp 100) 42 rfl w.heap.size 3 i0 (.int .i64 0) 1 8 Try.underlying42 hi hz0 hz1 hz2 (by rfl) (by decide) _ _ _ (by rfl) (HO3.alloc _) ⟨w3.heap.size, 0, none⟩ 1 1 [.int .i64 x] (by rfl) (by rfl) (cell_one_new _ _ _) (by intro u hu; simp at hu; subst hu; rfl) (by decide) (by unfold maxLen; omega) (by omega) (by have := HB3.out.size; simp; omega) (w3.heap.size + 1) (by simp) ?_))
            intro g3 cap3 w4 ho4 hg4 hat4 hlt4
            have HI3 : Hid (In2 w w4 p c n L false (k + 1) (.slice Av L.length cv) (.slice (some ⟨g3, 0, none⟩) (k + 1) cap3)) := by
              have hall : OwnAll w.heap.size w3 [⟨.slice Ag k cg, 3, 1, k, ints (L.take k)⟩, ⟨.slice Av L.length cv, 3, 1, L.length, ints L⟩] :=
                ⟨by intro r hr; simp at hr; rcases hr with rfl | rfl; exact HO3; exact HW3, by simpa using HAp.out⟩
              have ha := OwnAll.appended [] _ hall ho4 hg4 hat4 (by simp)
              refine ⟨ha.own ⟨.slice Av L.length cv, 3, 1, L.length, ints L⟩ (by simp), ?_, (List.pairwise_cons.1 ha.apart).1 ⟨.slice Av L.length cv, 3, 1, L.length, ints L⟩ (by simp), ring_append HR3.out HO3 hg4 ho4, below_append HB3.out HO3 hg4⟩
              rw [HT.out, RInt.ints_snoc]; exact ho4
            clear ho4 hg4 hat4 hlt4 HO3 HB3 HR3 HW3 HAp HT
            go_wp2
            go_roundw
            case rel => exact ⟨k + 1, by omega, by go_num, HI3.out⟩
            case measure => simp [intOf]; omega
          · have hkL : k = L.length := by omega
            subst hkL
            have HR := Lib.hid HI.ring
            have hd : L.drop L.length = [] := by simp
            rw [hd] at HR
            have HG := HI.got
            rw [List.take_length] at HG
            obtain ⟨Ag, cg, rfl⟩ := (Rd.of_own HG).form
            have HG1 := Lib.hid HG
            have HW1 := Lib.hid HI.want
            have HB1 := Lib.hid HI.below
            clear HI hd HG
            go_wp2_with fail
            refine (RInt.take_none HR).mono ?_
            rintro e w' ⟨rfl, rfl⟩
            go_wp2_with fail
            refine (RInt.take_none HR).mono ?_
            rintro e w' ⟨rfl, rfl⟩
            go_wp2_with fail
            refine (RInt.put_room 1 HR.out (by show 0 < n; omega)).mono ?_
            rintro e w4 ⟨rfl, hr4, hch4, hs4⟩
            have HG4 := Lib.hid (own_ring HG1.out HR.out hch4)
            have HW4 := Lib.hid (own_ring HW1.out HR.out hch4)
            have HB4 := Lib.hid (Ch.after HB1.out hch4 HB1.out.size (fun j hj => by omega))
            clear hr4 hch4 hs4 HB1 HW1 HG1 HR
            go_wp2_with fail
            refine (ints_any _ _ L.length L.length L L _ (by omega) (by omega) (Rd.of_own HG4.out) (Rd.of_own HW4.out)).mono ?_
            rintro e w5 ⟨rfl, hb5⟩
            have HB5 := Lib.hid (keep_call HB4.out hb5)
            have hdd : decide (L = L) = true := by simp
            rw [hdd]
            clear hb5 hdd
            go_wp2_with fail
            refine (awake_any _).mono ?_
            rintro e w6 ⟨rfl, hb6⟩
            have HB6 := Lib.hid (keep_call HB5.out hb6)
            clear hb6
            go_wp2
            go_ret
            exact ⟨rfl, HB6.out⟩
      · go_wp2_with fail
        refine (RInt.close_yes HR2).mono ?_
        rintro e w4 ⟨rfl, hr4, hch4, hs4⟩
        have HO4 := own_close HO2.out HR2.out hch4
        have HB5 := Ch.after HB.out hch4 HB.out.size (fun j hj => by rcases hj with rfl | rfl <;> omega)
        clear HB HR2 HO2
        have HB := Lib.hid HB5
        have HR2 := Lib.hid hr4
        have HO2 := Lib.hid HO4
        clear hr4 hch4 hs4 HB5 HO4
        go_wp2_with fail
        go_loopw [12, 13] (fun v i wr => ∃ k : Nat, k ≤ L.length ∧ i = .int .i64 k ∧ In2 w wr p c n L true k (.slice Av L.length cv) v) (fun _ i _ => L.length - (intOf i).toNat)
        case atStart => exact ⟨0, by omega, rfl, HO2.out, by simpa [ints] using World.ownsRow_nil _ w.heap.size 3 1, Ap.nil_ _, by simpa using HR2.out, HB.out⟩
        case round =>
          clear HO2 HR2 HB
          obtain ⟨k, hk, rfl, HI⟩ := hrel
          by_cases hkm : k < L.length
          · obtain ⟨x, hx⟩ : ∃ x, L[k]'hkm = x := ⟨_, rfl⟩
            have hd : L.drop k = x :: L.drop (k + 1) := by rw [← hx]; exact List.drop_eq_getElem_cons hkm
            have HT : Hid (L.take (k + 1) = L.take k ++ [x]) := by show _ = _; rw [← hx]; exact List.take_succ_eq_append_getElem hkm
            have HR := Lib.hid HI.ring
            rw [hd] at HR
            have HI1 := Lib.hid HI
            clear HI hx hd
            go_wp2_with fail
            refine (RInt.take_some x (q := ints (L.drop (k + 1))) HR).mono ?_
            rintro e w3 ⟨rfl, hr3, hch3, hs3⟩
            have HO3 := own_ring HI1.out.got HR.out hch3
            have HW3 := own_ring HI1.out.want HR.out hch3
            have HR3 := Lib.hid hr3
            have HB3 := Lib.hid (Ch.after HI1.out.below hch3 HI1.out.below.size (fun j hj => by omega))
            obtain ⟨Ag, cg, rfl⟩ := (Rd.of_own HO3).form
            have HAp := Lib.hid HI1.out.apart
            clear hr3 hch3 hs3 HR HI1
            go_wp2_with (at_builtin; go_must (refine wpList_append_lies _ rfl (.tmp 98) (.tmp 100) 42 rfl w.heap.size 3 i0 (.int .i64 0) 1 8 Try.underlying42 hi hz0 hz1 hz2 (by rfl) (by decide) _ _ _ (by rfl) (HO3.alloc _) ⟨w3.heap.size, 0, none⟩ 1 1 [.int .i64 x] (by rfl) (by rfl) (cell_one_new _ _ _) (by intro u hu; simp at hu; subst hu; rfl) (by decide) (by unfold maxLen; omega) (by omega) (by have := HB3.out.size; simp; omega) (w3.heap.size + 1) (by simp) ?_))
            intro g3 cap3 w4 ho4 hg4 hat4 hlt4
            have HI3 : Hid (In2 w w4 p c n L true (k + 1) (.slice Av L.length cv) (.slice (some ⟨g3, 0, none⟩) (k + 1) cap3)) := by
              have hall : OwnAll w.heap.size w3 [⟨.slice Ag k cg, 3, 1, k, ints (L.take k)⟩, ⟨.slice Av L.length cv, 3, 1, L.length, ints L⟩] :=
                ⟨by intro r hr; simp at hr; rcases hr with rfl | rfl; exact HO3; exact HW3, by simpa using HAp.out⟩
              have ha := OwnAll.appended [] _ hall ho4 hg4 hat4 (by simp)
              refine ⟨ha.own ⟨.slice Av L.length cv, 3, 1, L.length, ints L⟩ (by simp), ?_, (List.pairwise_cons.1 ha.apart).1 ⟨.slice Av L.length cv, 3, 1, L.length, ints L⟩ (by simp), ring_append HR3.out HO3 hg4 ho4, below_append HB3.out HO3 hg4⟩
              rw [HT.out, RInt.ints_snoc]; exact ho4
            clear ho4 hg4 hat4 hlt4 HO3 HB3 HR3 HW3 HAp HT
            go_wp2
            go_roundw
            case rel => exact ⟨k + 1, by omega, by go_num, HI3.out⟩
            case measure => simp [intOf]; omega
          · have hkL : k = L.length := by omega
            subst hkL
            have HR := Lib.hid HI.ring
            have hd : L.drop L.length = [] := by simp
            rw [hd] at HR
            have HG := HI.got
            rw [List.take_length] at HG
            obtain ⟨Ag, cg, rfl⟩ := (Rd.of_own HG).form
            have HG1 := Lib.hid HG
            have HW1 := Lib.hid HI.want
            have HB1 := Lib.hid HI.below
            clear HI hd HG
            go_wp2_with fail
            refine (RInt.take_none HR).mono ?_
            rintro e w' ⟨rfl, rfl⟩
            go_wp2_with fail
            refine (RInt.take_none HR).mono ?_
            rintro e w' ⟨rfl, rfl⟩
            go_wp2_with fail
            refine (RInt.put_shut 1 HR).mono ?_
            rintro e w' ⟨rfl, rfl⟩
            have HG4 := HG1
            have HW4 := HW1
            have HB4 := HB1
            clear HG1 HW1 HB1 HR
            go_wp2_with fail
            refine (ints_any _ _ L.length L.length L L _ (by omega) (by omega) (Rd.of_own HG4.out) (Rd.of_own HW4.out)).mono ?_
            rintro e w5 ⟨rfl, hb5⟩
            have HB5 := Lib.hid (keep_call HB4.out hb5)
            have hdd : decide (L = L) = true := by simp
            rw [hdd]
            clear hb5 hdd
            go_wp2_with fail
            refine (awake_any _).mono ?_
            rintro e w6 ⟨rfl, hb6⟩
            have HB6 := Lib.hid (keep_call HB5.out hb6)
            clear hb6
            go_wp2
            go_ret
            exact ⟨rfl, HB6.out⟩

set_option maxHeartbeats 1600000 in
theorem order_any (A : Option Addr) (m cp : Nat) (n : Int) (l : List Int) (shut : Bool) (w : World) (hrow : m ≤ 9223372036854775807) (hl : Hid (l.length = m)) (hrd : Hid (Rd w w.heap.size 1 (.slice A m cp) m (ints l))) :
    Calls Try.prog 4 #[.slice A m cp, .int .i64 n, .bool shut] w (Yes w) := by
  by_cases hn : n < 1 ∨ 1024 < n
  · go_enter Try.func4, Try.ntmps4
    go_wp2_with fail
    refine (RInt.new_no n w hn).mono ?_
    rintro e w' ⟨rfl, rfl⟩
    go_wp2_with fail
    refine (awake_any _).mono ?_
    rintro e w6 ⟨rfl, hb6⟩
    go_wp2
    go_ret
    exact ⟨rfl, hb6⟩
  · obtain ⟨k, rfl⟩ : ∃ k : Nat, n = k := ⟨n.toNat, by omega⟩
    have h1 : 1 ≤ k := by omega
    have h2 : k ≤ 1024 := by omega
    by_cases hm : m ≤ 200
    · exact order_main A m cp k l shut w h1 h2 hm hl hrd
    · clear hn
      go_enter Try.func4, Try.ntmps4
      go_wp2_with fail
      refine (RInt.new_yes k w h1 h2).mono ?_
      rintro e w1 ⟨rfl, hr, hb, hsz⟩
      have HB1 := Lib.hid hb
      clear hr hb hsz
      have hm' : 200 < m := by omega
      go_wp2_with fail
      refine (awake_any _).mono ?_
      rintro e w6 ⟨rfl, hb6⟩
      have HB6 := Lib.hid (keep_call HB1.out hb6)
      clear hb6
      go_wp2
      go_ret
      exact ⟨rfl, HB6.out⟩
end Go.Proofs.Ytpfhmkfeneejeaa

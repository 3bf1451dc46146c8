/- The walk of CrcMixes. -/
import Derived.Test.YtllbdbecenhomaaDoorJoins
import Derived.Test.YtllbdbecenhomaaDoorOwns
import Derived.Deep.DeepMust
namespace Go.Proofs.YtllbdbecenhomaaDoor
open Go.RowKit Go.Proofs.CrcMath Go.LawEnd

def rw8 (v : Value) (k : Nat) (l : List Nat) : Rw := ⟨v, 5, 1, k, cellsOf l⟩
theorem cellsOf_snoc (l : List Nat) (x : Nat) : cellsOf l ++ [.int .u8 (x : Int)] = cellsOf (l ++ [x]) := by simp [cellsOf]
theorem take_snoc' (l : List Nat) (k : Nat) (h : k < l.length) : l.take k ++ [l.getD k 0] = l.take (k + 1) := by
  rw [List.take_succ_eq_append_getElem h, List.getD_eq_getElem?_getD, List.getElem?_eq_getElem h]; rfl
theorem u8_xor (a b : Nat) (ha : a < 256) (hb : b < 256) : bits .xor .u8 (a : Int) (b : Int) = ((a ^^^ b : Nat) : Int) := by
  have hx : a ^^^ b < 2 ^ 8 := Nat.xor_lt_two_pow (by omega) (by omega)
  have h : ∀ n : Nat, n < 256 → (BitVec.ofInt 8 (n : Int)).toNat = n := fun n hn => by
    rw [BitVec.ofInt_natCast, BitVec.toNat_ofNat]; exact Nat.mod_eq_of_lt (by omega)
  show IntKind.u8.wrap ((BitVec.ofInt 8 (a : Int) ^^^ BitVec.ofInt 8 (b : Int)).toNat : Int) = _
  rw [BitVec.toNat_xor, h a ha, h b hb]
  simp [IntKind.wrap, IntKind.bits, IntKind.signed]
  omega

theorem bytes_row {w : World} {B k : Nat} {v : Value} {l : List Nat} (h : (rw8 v k l).Own B w) (hb : ∀ x ∈ l, x < 256) : BytesAt w w.heap.size v l := by
  have h' : w.ownsRow B 5 1 v k (cellsOf l) := h
  rcases h'.2 with ⟨hv, hk⟩ | ⟨g, cap, cur, hv, _⟩
  · have hl : l = [] := by have := h'.1; simp [cellsOf, hk] at this; exact this
    rw [hv, hl]
    exact BytesAt.nil_ _ _
  · rw [hv] at h' ⊢
    exact bytes_own h' hb

/-- what the loop holds behind k rounds -/
structure Inv (w wr : World) (k : Nat) (va vb vc vx : Value) (la lb lc lx : List Nat) : Prop where
  own : OwnAll w.heap.size wr [rw8 va k (la.take k), rw8 vb k (lb.take k), rw8 vc k (lc.take k), rw8 vx k (lx.take k)]
  below : Below w.heap.size w wr

set_option maxHeartbeats 1600000 in
theorem mixes_in (A : Option Addr) (n c : Nat) (la lb lc lx : List Nat) (w : World) (hT : Hid (Tab w)) (h0 : 0 < w.heap.size) (h1 : n ≤ 300) (ea : la.length = n) (eb : lb.length = n) (ec : lc.length = n)
    (hla : Hid (∀ x ∈ la, x < 256)) (hlb : Hid (∀ x ∈ lb, x < 256)) (hlc : Hid (∀ x ∈ lc, x < 256)) (hlx : lx = List.zipWith (· ^^^ ·) (List.zipWith (· ^^^ ·) la lb) lc)
    (hcl : Hid (0 < n → ∃ b off, A = some ⟨b, off, none⟩ ∧ b < w.heap.size ∧ ∀ i, i < n → w.cell? ⟨b, off + i * 3, none⟩ = some (.int .u8 (la.getD i 0 : Nat)) ∧ w.cell? ⟨b, off + i * 3 + 1, none⟩ = some (.int .u8 (lb.getD i 0 : Nat)) ∧ w.cell? ⟨b, off + i * 3 + 2, none⟩ = some (.int .u8 (lc.getD i 0 : Nat)))) :
    Calls Tryd.prog 4 #[.slice A n c] w (Yes w) := by
  have elx : lx.length = n := by rw [hlx]; simp; omega
  have HLX := Lib.hid hlx
  have EA := Lib.hid ea
  have EB := Lib.hid eb
  have EC := Lib.hid ec
  have EX := Lib.hid elx
  clear ea eb ec elx hlx
  obtain ⟨i0, hi, hz0, hz1, hz2⟩ := info_parts infoByte
  go_enter Tryd.func4, Tryd.ntmps4
  go_wp2
  go_loopw [3, 4, 5, 6, 7] (fun va vb vc vx i wr => ∃ k : Nat, k ≤ n ∧ i = .int .i64 k ∧ Inv w wr k va vb vc vx la lb lc lx) (fun _ _ _ _ i _ => n - (intOf i).toNat)
  case atStart =>
    refine ⟨0, by omega, rfl, ?_, Below.refl _ _⟩
    have h : (rw8 (.slice none 0 0) 0 []).Own w.heap.size w := World.ownsRow_nil w w.heap.size 5 1
    exact ((((OwnAll.nil _ _).cons h (fun s hs => Ap.nil_ _)).cons h (fun s hs => Ap.nil_ _)).cons h (fun s hs => Ap.nil_ _)).cons h (fun s hs => Ap.nil_ _)
  case round =>
    obtain ⟨k, hk, rfl, HI⟩ := hrel
    by_cases hk2 : k < n
    · obtain ⟨b, off, rfl, hb, hcells⟩ := hcl.out (by omega)
      have hcells := hcells k hk2
      obtain ⟨x0, hx0⟩ : ∃ x, la.getD k 0 = x := ⟨_, rfl⟩
      obtain ⟨x1, hx1⟩ : ∃ x, lb.getD k 0 = x := ⟨_, rfl⟩
      obtain ⟨x2, hx2⟩ : ∃ x, lc.getD k 0 = x := ⟨_, rfl⟩
      rw [hx0, hx1, hx2] at hcells
      have HC : Hid (∀ W : World, Below w.heap.size w W → W.cell? ⟨b, off + k * 3, none⟩ = some (.int .u8 (x0 : Int)) ∧ W.cell? ⟨b, off + k * 3 + 1, none⟩ = some (.int .u8 (x1 : Int)) ∧ W.cell? ⟨b, off + k * 3 + 2, none⟩ = some (.int .u8 (x2 : Int))) := fun W hW =>
        ⟨(hW.cell (p := ⟨b, off + k * 3, none⟩) hb).trans hcells.1, (hW.cell (p := ⟨b, off + k * 3 + 1, none⟩) hb).trans hcells.2.1, (hW.cell (p := ⟨b, off + k * 3 + 2, none⟩) hb).trans hcells.2.2⟩
      have hl0 : x0 < 256 := by rw [← hx0, List.getD_eq_getElem?_getD, List.getElem?_eq_getElem (by have := EA.out; omega)]; exact hla.out _ (List.getElem_mem _)
      have hl1 : x1 < 256 := by rw [← hx1, List.getD_eq_getElem?_getD, List.getElem?_eq_getElem (by have := EB.out; omega)]; exact hlb.out _ (List.getElem_mem _)
      have hl2 : x2 < 256 := by rw [← hx2, List.getD_eq_getElem?_getD, List.getElem?_eq_getElem (by have := EC.out; omega)]; exact hlc.out _ (List.getElem_mem _)
      have TA : Hid (la.take k ++ [x0] = la.take (k + 1)) := by rw [← hx0]; exact take_snoc' la k (by have := EA.out; omega)
      have TB : Hid (lb.take k ++ [x1] = lb.take (k + 1)) := by rw [← hx1]; exact take_snoc' lb k (by have := EB.out; omega)
      have TC : Hid (lc.take k ++ [x2] = lc.take (k + 1)) := by rw [← hx2]; exact take_snoc' lc k (by have := EC.out; omega)
      have TX : Hid (lx.take k ++ [x0 ^^^ x1 ^^^ x2] = lx.take (k + 1)) := by
        show _ = _
        rw [← take_snoc' lx k (by have := EX.out; omega)]
        have e1 : k < la.length := by have := EA.out; omega
        have e2 : k < lb.length := by have := EB.out; omega
        have e3 : k < lc.length := by have := EC.out; omega
        rw [HLX.out, ← hx0, ← hx1, ← hx2]
        simp [List.getD_eq_getElem?_getD, List.getElem?_zipWith, e1, e2, e3]
      clear hcells hx0 hx1 hx2
      have hd0 := (HC.out wr HI.below).1
      have O0 := Lib.hid HI.own
      have hoa : wr.ownsRow w.heap.size 5 1 u3 k (cellsOf (la.take k)) := HI.own.own _ (List.mem_cons_self ..)
      have hs0 := HI.below.size
      have HB := Lib.hid HI.below
      clear HI
      go_wp2_with (at_builtin; go_must (refine wpList_append_lies _ rfl (.tmp 18) (.tmp 24) 22 rfl w.heap.size 5 i0 (.int .u8 0) 1 1 Tryd.underlying22 hi hz0 hz1 hz2 (by rfl) (by decide) _ _ _ (by rfl) (hoa.alloc _) ⟨wr.heap.size, 0, none⟩ 1 1 [.int .u8 (x0 : Int)] (by rfl) (by rfl) (cell_one_new _ _ _) (by intro u hu; simp at hu; subst hu; rfl) (by decide) (by unfold maxLen; omega) (by omega) (by simp; omega) (wr.heap.size + 1) (by simp) ?_))
      intro g1 cap1 w1 ho1 hg1 hat1 hlt1
      have O1 := Lib.hid (OwnAll.appended [] _ O0.out ho1 hg1 hat1 (Nat.le_refl _))
      have B1 := below_appended HB.out hoa hg1
      have HB1 := Lib.hid B1
      have hs1 := B1.size
      have hd1 := (HC.out w1 B1).2.1
      have hob : w1.ownsRow w.heap.size 5 1 u4 k (cellsOf (lb.take k)) := O1.out.own _ (List.mem_cons_of_mem _ (List.mem_cons_self ..))
      clear hoa ho1 hg1 hat1 hlt1 HB O0 hd0 B1
      go_wp2_with (at_builtin; go_must (refine wpList_append_lies _ rfl (.tmp 26) (.tmp 32) 22 rfl w.heap.size 5 i0 (.int .u8 0) 1 1 Tryd.underlying22 hi hz0 hz1 hz2 (by rfl) (by decide) _ _ _ (by rfl) (hob.alloc _) ⟨w1.heap.size, 0, none⟩ 1 1 [.int .u8 (x1 : Int)] (by rfl) (by rfl) (cell_one_new _ _ _) (by intro u hu; simp at hu; subst hu; rfl) (by decide) (by unfold maxLen; omega) (by omega) (by simp; omega) (w1.heap.size + 1) (by simp) ?_))
      intro g2 cap2 w2 ho2 hg2 hat2 hlt2
      have O2 := Lib.hid (OwnAll.appended [_] _ O1.out ho2 hg2 hat2 (Nat.le_refl _))
      have B2 := below_appended HB1.out hob hg2
      have HB2 := Lib.hid B2
      have hs2 := B2.size
      have hd2 := (HC.out w2 B2).2.2
      have hoc : w2.ownsRow w.heap.size 5 1 u5 k (cellsOf (lc.take k)) := O2.out.own _ (List.mem_cons_of_mem _ (List.mem_cons_of_mem _ (List.mem_cons_self ..)))
      clear hob ho2 hg2 hat2 hlt2 HB1 O1 hd1 B2
      go_wp2_with (at_builtin; go_must (refine wpList_append_lies _ rfl (.tmp 34) (.tmp 40) 22 rfl w.heap.size 5 i0 (.int .u8 0) 1 1 Tryd.underlying22 hi hz0 hz1 hz2 (by rfl) (by decide) _ _ _ (by rfl) (hoc.alloc _) ⟨w2.heap.size, 0, none⟩ 1 1 [.int .u8 (x2 : Int)] (by rfl) (by rfl) (cell_one_new _ _ _) (by intro u hu; simp at hu; subst hu; rfl) (by decide) (by unfold maxLen; omega) (by omega) (by simp; omega) (w2.heap.size + 1) (by simp) ?_))
      intro g3 cap3 w3 ho3 hg3 hat3 hlt3
      have O3 := Lib.hid (OwnAll.appended [_, _] _ O2.out ho3 hg3 hat3 (Nat.le_refl _))
      have B3 := below_appended HB2.out hoc hg3
      have HB3 := Lib.hid B3
      have hs3 := B3.size
      have hd0 := (HC.out w3 B3).1
      have hd1 := (HC.out w3 B3).2.1
      have hd2 := (HC.out w3 B3).2.2
      have hox : w3.ownsRow w.heap.size 5 1 u6 k (cellsOf (lx.take k)) := O3.out.own _ (List.mem_cons_of_mem _ (List.mem_cons_of_mem _ (List.mem_cons_of_mem _ (List.mem_cons_self ..))))
      clear hoc ho3 hg3 hat3 hlt3 HB2 O2 B3
      have hxx : bits .xor .u8 (x0 : Int) (x1 : Int) = ((x0 ^^^ x1 : Nat) : Int) := u8_xor x0 x1 hl0 hl1
      have hxy : bits .xor .u8 ((x0 ^^^ x1 : Nat) : Int) (x2 : Int) = ((x0 ^^^ x1 ^^^ x2 : Nat) : Int) := u8_xor _ x2 (Nat.xor_lt_two_pow (n := 8) hl0 hl1) hl2
      obtain ⟨xx, hx3⟩ : ∃ xx, x0 ^^^ x1 ^^^ x2 = xx := ⟨_, rfl⟩
      rw [hx3] at hxy TX
      clear hx3
      have KA : Hid (∀ w4, ((w3.alloc (.cells #[.int .u8 (xx : Int)] 5)).drew).grownBy w4 u6.ownBlock → Below w.heap.size w w4) := fun w4 h => below_appended HB3.out hox (o := .cells #[.int .u8 (xx : Int)] 5) ⟨h.os, h.tape, h.output, h.size, h.block⟩
      go_wp2_with fail
      go_region_held3 (fun W => Below w.heap.size w W ∧ (W.cell? ⟨b, off + k * 3, none⟩ = some (.int .u8 (x0 : Int)) ∧ W.cell? ⟨b, off + k * 3 + 1, none⟩ = some (.int .u8 (x1 : Int)) ∧ W.cell? ⟨b, off + k * 3 + 2, none⟩ = some (.int .u8 (x2 : Int))))
        ((refine (fun h => ⟨h, HC.out _ h⟩) ?_; first | assumption | exact HB3.out | exact Below.drew HB3.out | exact Below.drew (keep_alloc HB3.out _) | exact keep_alloc HB3.out _ | exact KA.out _ (by assumption)))
        ((refine step_append_lies _ (by rfl) (.tmp 42) (.tmp 60) 22 (by rfl) w.heap.size 5 i0 (.int .u8 0) 1 1 Tryd.underlying22 hi hz0 hz1 hz2 (by rfl) (by decide) _ _ _ (by rfl) (hox.alloc _) ⟨w3.heap.size, 0, none⟩ 1 1 [.int .u8 (xx : Int)] (by rfl) (by rfl) (cell_one_new _ _ _) (by intro u hu; simp at hu; subst hu; rfl) (by decide) (by unfold maxLen; omega) (by omega) (by simp; omega) (w3.heap.size + 1) (by simp) ?_; intro g4 cap4 w4 ho4 hg4 hat4 hlt4))
      have O4 := Lib.hid (OwnAll.appended (o := .cells #[.int .u8 (xx : Int)] 5) [_, _, _] _ O3.out ho4 ⟨hg4.os, hg4.tape, hg4.output, hg4.size, hg4.block⟩ hat4 (Nat.le_refl _))
      have HB4 := Lib.hid (KA.out _ hg4)
      clear hox ho4 hg4 hat4 hlt4 HB3 O3 hd0 hd1 hd2 hxx hxy KA
      go_wp2
      go_roundw
      case rel =>
        refine ⟨k + 1, by omega, by go_num, ?_, HB4.out⟩
        have := O4.out
        simp only [cellsOf_snoc, TA.out, TB.out, TC.out, TX.out] at this
        exact this
      case measure => simp [intOf]; omega
    · obtain rfl : k = n := by omega
      have hoa := bytes_row (HI.own.own _ (List.mem_cons_self ..)) (fun x hx => hla.out x (List.mem_of_mem_take hx))
      have hob := bytes_row (HI.own.own _ (List.mem_cons_of_mem _ (List.mem_cons_self ..))) (fun x hx => hlb.out x (List.mem_of_mem_take hx))
      have hoc := bytes_row (HI.own.own _ (List.mem_cons_of_mem _ (List.mem_cons_of_mem _ (List.mem_cons_self ..)))) (fun x hx => hlc.out x (List.mem_of_mem_take hx))
      have hlxb : ∀ x ∈ lx, x < 256 := by
        intro x hx
        rw [HLX.out] at hx
        obtain ⟨i, hi, rfl⟩ := List.getElem_of_mem hx
        rw [List.getElem_zipWith, List.getElem_zipWith]
        exact Nat.xor_lt_two_pow (n := 8) (Nat.xor_lt_two_pow (n := 8) (hla.out _ (List.getElem_mem _)) (hlb.out _ (List.getElem_mem _))) (hlc.out _ (List.getElem_mem _))
      have hox := bytes_row (HI.own.own _ (List.mem_cons_of_mem _ (List.mem_cons_of_mem _ (List.mem_cons_of_mem _ (List.mem_cons_self ..))))) (fun x hx => hlxb x (List.mem_of_mem_take hx))
      rw [List.take_of_length_le (by have := EA.out; omega)] at hoa
      rw [List.take_of_length_le (by have := EB.out; omega)] at hob
      rw [List.take_of_length_le (by have := EC.out; omega)] at hoc
      rw [List.take_of_length_le (by have := EX.out; omega)] at hox
      obtain ⟨A3, c3, rfl⟩ : ∃ A c, u3 = .slice A la.length c := by obtain ⟨_, A, c, h, _⟩ := hoa; exact ⟨A, c, h⟩
      obtain ⟨A4, c4, rfl⟩ : ∃ A c, u4 = .slice A lb.length c := by obtain ⟨_, A, c, h, _⟩ := hob; exact ⟨A, c, h⟩
      obtain ⟨A5, c5, rfl⟩ : ∃ A c, u5 = .slice A lc.length c := by obtain ⟨_, A, c, h, _⟩ := hoc; exact ⟨A, c, h⟩
      obtain ⟨A6, c6, rfl⟩ : ∃ A c, u6 = .slice A lx.length c := by obtain ⟨_, A, c, h, _⟩ := hox; exact ⟨A, c, h⟩
      have OA := Lib.hid hoa
      have OB := Lib.hid hob
      have OC := Lib.hid hoc
      have OX := Lib.hid hox
      have HB := Lib.hid HI.below
      have T0 := Lib.hid (hT.out.below HI.below h0)
      have hs0 := HI.below.size
      obtain ⟨sa, hsa⟩ : ∃ s, sum la = s := ⟨_, rfl⟩
      obtain ⟨sb, hsb⟩ : ∃ s, sum lb = s := ⟨_, rfl⟩
      obtain ⟨sc, hsc⟩ : ∃ s, sum lc = s := ⟨_, rfl⟩
      have hsx : sum lx = sa ^^^ sb ^^^ sc := by rw [HLX.out, ← hsa, ← hsb, ← hsc]; exact sum_mix la lb lc (by rw [EA.out, EB.out]) (by rw [EA.out, EC.out])
      have la' : sa < 4294967296 := by rw [← hsa]; exact sum_lt _ hla.out
      have lb' : sb < 4294967296 := by rw [← hsb]; exact sum_lt _ hlb.out
      have lc' : sc < 4294967296 := by rw [← hsc]; exact sum_lt _ hlc.out
      have hx1 := i64_xor_nat sa sb (by omega) (by omega)
      have hx2 := i64_xor_nat (sa ^^^ sb) sc (by have := Nat.xor_lt_two_pow (n := 32) la' lb'; omega) (by omega)
      have SA := Lib.hid hsa
      have SB := Lib.hid hsb
      have SC := Lib.hid hsc
      have SX := Lib.hid hsx
      clear hsa hsb hsc hsx hoa hob hoc hox HI hlxb
      go_wp2_with fail
      refine (sum_row1 _ lx wr (by have := EX.out; omega) T0.out (by omega) OX.out).mono ?_
      rintro e w1 ⟨rfl, hb1⟩
      rw [SX.out]
      have hs1 := hb1.size
      have HB1 := Lib.hid hb1
      have T1 := Lib.hid (T0.out.below hb1 (by omega))
      clear hb1
      go_wp2_with fail
      refine (sum_row1 _ la w1 (by have := EA.out; omega) T1.out (by omega) ((OA.out.below HB1.out (Nat.le_refl _)).mono hs1)).mono ?_
      rintro e w2 ⟨rfl, hb2⟩
      rw [SA.out]
      have hs2 := hb2.size
      have HB2 := Lib.hid (HB1.out.trans (hb2.mono hs1))
      have T2 := Lib.hid (T1.out.below hb2 (by omega))
      clear hb2
      go_wp2_with fail
      refine (sum_row1 _ lb w2 (by have := EB.out; omega) T2.out (by omega) ((OB.out.below HB2.out (Nat.le_refl _)).mono (by omega))).mono ?_
      rintro e w3 ⟨rfl, hb3⟩
      rw [SB.out]
      have hs3 := hb3.size
      have HB3 := Lib.hid (HB2.out.trans (hb3.mono (by omega)))
      have T3 := Lib.hid (T2.out.below hb3 (by omega))
      clear hb3
      go_wp2_with fail
      refine (sum_row1 _ lc w3 (by have := EC.out; omega) T3.out (by omega) ((OC.out.below HB3.out (Nat.le_refl _)).mono (by omega))).mono ?_
      rintro e w4 ⟨rfl, hb4⟩
      rw [SC.out]
      have hs4 := hb4.size
      have HB4 := Lib.hid (HB3.out.trans (hb4.mono (by omega)))
      have T4 := Lib.hid (T3.out.below hb4 (by omega))
      clear hb4
      go_wp2_with fail
      refine (awake_any _ T4 (by omega)).mono ?_
      rintro e w5 ⟨rfl, hb5⟩
      have HB5 := Lib.hid (HB4.out.trans (hb5.mono (by omega)))
      clear hb5
      go_wp2
      go_ret
      exact ⟨rfl, HB.out.trans (HB5.out.mono hs0)⟩

set_option maxHeartbeats 800000 in
theorem mixes_out (A : Option Addr) (n c : Nat) (w : World) (hT : Hid (Tab w)) (h0 : 0 < w.heap.size) (h : 300 < n) :
    Calls Tryd.prog 4 #[.slice A n c] w (Yes w) := by
  go_enter Tryd.func4, Tryd.ntmps4
  go_wp2_with fail
  refine (awake_any _ hT h0).mono ?_
  rintro e w' ⟨rfl, hb⟩
  go_wp2
  go_ret
  exact ⟨rfl, hb⟩
end Go.Proofs.YtllbdbecenhomaaDoor

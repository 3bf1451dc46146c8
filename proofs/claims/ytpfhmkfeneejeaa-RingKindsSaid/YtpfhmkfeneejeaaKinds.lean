/- The walk of RingKinds. -/
import Derived.Test.YtpfhmkfeneejeaaRingPair
import Derived.Test.YtpfhmkfeneejeaaRingPtr
import Derived.Test.YtpfhmkfeneejeaaChain
namespace Go.Proofs.Ytpfhmkfeneejeaa
open Go.RowKit Go.LawEnd Go.Conc

abbrev PL := List (Int × ByteArray)
def ptrs (ps : List Nat) : List Value := ps.map fun g => .pointer (some ⟨g, 0, none⟩)
structure K1 (w wr : World) (p c p' c' : Nat) (L : PL) (k : Nat) (ps : List Nat) : Prop where
  ra : Ring 67 wr p c 64 (RPair.que (L.take k)) false
  rb : Ring 70 wr p' c' 64 (ptrs ps) false
  len : ps.length = k
  blk : ∀ j (h : j < ps.length) (h' : j < L.length), Blk wr ps[j] 29 #[.int .i64 L[j].1, .string L[j].2]
  below : Below w.heap.size w wr
structure K2 (w wr : World) (p' c' : Nat) (L : PL) (k : Nat) (ps : List Nat) (v : Value) : Prop where
  own : wr.ownsRow w.heap.size 29 2 v L.length (RPair.row L)
  rb : Ring 70 wr p' c' 64 (ptrs (ps.drop k)) false
  len : ps.length = L.length
  blk : ∀ j (h : j < ps.length) (h' : j < L.length), Blk wr ps[j] 29 #[.int .i64 L[j].1, .string L[j].2]
  below : Below w.heap.size w wr

theorem row_get (L : PL) (j : Nat) (h : j < L.length) : (RPair.row L)[j * 2]? = some (.int .i64 L[j].1) ∧ (RPair.row L)[j * 2 + 1]? = some (.string L[j].2) := by
  induction L generalizing j with
  | nil => simp at h
  | cons x l ih =>
    have e : RPair.row (x :: l) = .int .i64 x.1 :: .string x.2 :: RPair.row l := by simp [RPair.row]
    rw [e]
    cases j with
    | zero => simp
    | succ j =>
      have := ih j (by simpa using h)
      rw [show (j + 1) * 2 = j * 2 + 1 + 1 by omega]
      simpa using this

set_option maxRecDepth 100000 in
set_option maxHeartbeats 3200000 in
theorem kinds_main (A : Option Addr) (m cp : Nat) (L : PL) (w : World) (hm : m ≤ 60) (hl : Hid (L.length = m))
    (HX : Hid (∀ k, k < m → ∃ b off s, A = some ⟨b, off, none⟩ ∧ L[k]? = some ((k : Int), s) ∧ ∀ W : World, Below w.heap.size w W → W.cell? ⟨b, off + k, none⟩ = some (.string s))) :
    Calls Try.prog 3 #[.slice A m cp] w (Yes w) := by
  go_enter Try.func3, Try.ntmps3
  go_wp2_with fail
  refine (RPair.new_yes 64 w (by omega) (by omega)).mono ?_
  rintro e w1 ⟨rfl, hr, hb, hsz⟩
  have R1 := Lib.hid hr
  have B1 := Lib.hid hb
  have HS1 := Lib.hid hsz
  clear hr hb hsz
  go_wp2_with fail
  refine (RPtr.new_yes 64 w1 (by omega) (by omega)).mono ?_
  rintro e w2 ⟨rfl, hr, hb, hsz⟩
  rw [HS1.out] at hr hb hsz
  rw [HS1.out]
  have R2 := Lib.hid hr
  have R1' := Lib.hid (R1.out.below hb (by omega) (by omega))
  have B2 : Hid (Below w.heap.size w w2) := B1.out.trans (hb.mono (by omega))
  obtain ⟨p, hp⟩ : ∃ p, p = w.heap.size + 1 := ⟨_, rfl⟩
  obtain ⟨c, hc⟩ : ∃ c, c = w.heap.size := ⟨_, rfl⟩
  obtain ⟨p', hp'⟩ : ∃ p, p = w.heap.size + 2 + 1 := ⟨_, rfl⟩
  obtain ⟨c', hc'⟩ : ∃ c, c = w.heap.size + 2 := ⟨_, rfl⟩
  rw [← hp, ← hc] at R1'
  rw [← hp', ← hc'] at R2
  rw [← hp, ← hp']
  have hcl : w.heap.size ≤ c := by omega
  have hcl' : w.heap.size ≤ c' := by omega
  have hcc : c ≠ c' := by omega
  clear hr hb hsz hp hc hp' hc' R1 B1 HS1
  have HK0 : Hid (K1 w w2 p c p' c' L 0 []) := ⟨by simpa [RPair.que] using R1'.out, R2.out, rfl, fun j h _ => by simp at h, B2.out⟩
  clear R1' R2 B2
  go_wp2_with fail
  go_loopw [7] (fun i wr => ∃ k : Nat, k ≤ m ∧ i = .int .i64 k ∧ ∃ ps, K1 w wr p c p' c' L k ps) (fun i _ => m - (intOf i).toNat)
  case atStart => exact ⟨0, by omega, rfl, [], HK0.out⟩
  case round =>
    clear HK0
    obtain ⟨k, hk, rfl, ps, HK⟩ := hrel
    have HI := Lib.hid HK
    clear HK
    by_cases hkm : k < m
    · obtain ⟨b, off, s, rfl, hs, hcell⟩ := HX.out k hkm
      have hcx := hcell wr HI.out.below
      have HC := Lib.hid hcell
      have HT : Hid (L.take (k + 1) = L.take k ++ [((k : Int), s)]) := by show _ = _; rw [List.take_add_one, hs]; rfl
      have HSk := Lib.hid hs
      clear hs hcell
      go_wp2_with fail
      refine (RPair.put_room (k : Int) s (Lib.hid HI.out.ra) (by have := hl.out; simp [RPair.que]; omega)).mono ?_
      rintro e w3 ⟨rfl, hr3, hch3⟩
      have HR3 := Lib.hid hr3
      have HB3 := Lib.hid (Ch.after HI.out.below hch3 HI.out.below.size (fun j hj => by omega))
      have HP3 := Lib.hid (HI.out.rb.ch hch3 (fun e => ring_not_chan HI.out.rb HI.out.ra e) (fun e => hcc e.symm))
      have HBL3 : Hid (∀ j (h : j < ps.length) (h' : j < L.length), Blk w3 ps[j] 29 #[.int .i64 L[j].1, .string L[j].2]) := fun j h h' => (HI.out.blk j h h').ch hch3 (HI.out.ra.far_ (HI.out.blk j h h'))
      have hcx3 := HC.out w3 HB3.out
      clear hr3 hch3 hcx
      go_wp2_with fail
      have ha3 : Below w3.heap.size w3 (w3.alloc (.cells #[.int .i64 (k : Int), .string s] 29)) := (Below.refl _ w3).alloc (Nat.le_refl _) _
      have HP3' := Lib.hid (HP3.out.below ha3 HP3.out.plt HP3.out.clt)
      have HR3' := Lib.hid (HR3.out.below ha3 HR3.out.plt HR3.out.clt)
      have HBN : Hid (Blk (w3.alloc (.cells #[.int .i64 (k : Int), .string s] 29)) w3.heap.size 29 #[.int .i64 (k : Int), .string s]) := Blk.new _ _ _
      have hlk := HI.out.len
      refine (RPtr.put_room (some ⟨w3.heap.size, 0, none⟩) HP3' (by simp [ptrs]; omega)).mono ?_
      rintro e w4 ⟨rfl, hr4, hch4, hs4⟩
      have HI4 : Hid (K1 w w4 p c p' c' L (k + 1) (ps ++ [w3.heap.size])) := by
        refine ⟨?_, by simpa [ptrs] using hr4, by simp [hlk], ?_, Ch.after (keep_call HB3.out ha3) hch4 (keep_call HB3.out ha3).size (fun j hj => by omega)⟩
        · rw [HT.out, RPair.que_snoc]
          exact HR3'.out.ch hch4 (fun e => ring_not_chan HR3'.out HP3'.out e) (fun e => hcc e)
        · intro j h h'
          have hsk := HSk.out
          by_cases hj : j < ps.length
          · have hb := (HBL3.out j hj h').below ha3 (HBL3.out j hj h').lt
            have hb4 := hb.ch hch4 (HP3'.out.far_ hb)
            rw [List.getElem_append_left hj]
            exact hb4
          · have hjk : j = k := by simp at h; omega
            subst hjk
            have hb4 := HBN.out.ch hch4 (HP3'.out.far_ HBN.out)
            rw [List.getElem_append_right (by omega)]
            have hL : L[j] = ((j : Int), s) := by rw [List.getElem?_eq_getElem h'] at hsk; injection hsk
            rw [hL]
            simpa [hlk] using hb4
      clear hr4 hch4 hs4 HP3' HR3' HBN HBL3 HP3 HR3 HB3 ha3 hcx3
      go_wp2
      go_roundw
      case rel => exact ⟨k + 1, by omega, by go_num, _, HI4.out⟩
      case measure => simp [intOf]; omega
    · have hkl : k = L.length := by have := hl.out; omega
      have hRA := HI.out.ra
      rw [List.take_of_length_le (by omega)] at hRA
      have HRA := Lib.hid hRA
      have hlk := HI.out.len
      have HLL := Lib.hid hkl
      clear hRA hkl
      go_wp2_with fail
      refine (RPair.drain_any L (by have := hl.out; omega) HRA).mono ?_
      rintro e w3 ⟨v, rfl, hown, hch3⟩
      have HI3 : Hid (K2 w w3 p' c' L 0 ps v) := by
        refine ⟨?_, HI.out.rb.ch hch3 (fun e => ring_not_chan HI.out.rb HRA.out e) (fun e => hcc e.symm), by rw [hlk]; exact HLL.out, fun j h h' => (HI.out.blk j h h').ch hch3 (HRA.out.far_ (HI.out.blk j h h')), Ch.after HI.out.below hch3 HI.out.below.size (fun j hj => by omega)⟩
        exact ⟨hown.1, hown.2.imp id (fun ⟨g, cap, cur, a1, a2, a3⟩ => ⟨g, cap, cur, a1, Nat.le_trans HI.out.below.size a2, a3⟩)⟩
      obtain ⟨Av, cv, rfl⟩ := (Rd.of_own hown).form
      have hLm : L.length = m := hl.out
      rw [hLm] at HI3 ⊢
      clear hLm hown hch3 HRA HI
      go_wp2_with fail
      refine (RPtr.len_any (Lib.hid HI3.out.rb)).mono ?_
      rintro e w' ⟨rfl, rfl⟩
      have hle : (ptrs (ps.drop 0)).length = m := by have := HI3.out.len; have := hl.out; simp [ptrs]; omega
      rw [hle]
      clear hle
      go_wp2_with fail
      go_loopw [9] (fun i wr => ∃ k : Nat, k ≤ m ∧ i = .int .i64 k ∧ K2 w wr p' c' L k ps (.slice Av m cv)) (fun i _ => m - (intOf i).toNat)
      case atStart => exact ⟨0, by omega, rfl, HI3.out⟩
      case round =>
        clear HI3
        obtain ⟨i, hi, rfl, HK⟩ := hrel
        have HI := Lib.hid HK
        clear HK
        by_cases him : i < m
        · obtain ⟨b, off, s, rfl, hs, hcell⟩ := HX.out i him
          have hiL : i < L.length := by have := hl.out; omega
          have hip : i < ps.length := by have := HI.out.len; omega
          have hLi : L[i] = ((i : Int), s) := by rw [List.getElem?_eq_getElem hiL] at hs; injection hs
          obtain ⟨g, hg⟩ : ∃ g, ps[i] = g := ⟨_, rfl⟩
          have hd : ptrs (ps.drop i) = .pointer (some ⟨g, 0, none⟩) :: ptrs (ps.drop (i + 1)) := by rw [List.drop_eq_getElem_cons hip, hg]; rfl
          have HR := Lib.hid HI.out.rb
          rw [hd] at HR
          have hgb := HI.out.blk i hip hiL
          rw [hg, hLi] at hgb
          have HG := Lib.hid hgb
          have HC := Lib.hid hcell
          have HLi := Lib.hid hLi
          clear hd hg hs hcell hgb hLi
          go_wp2_with fail
          refine (RPtr.take_some (some ⟨g, 0, none⟩) HR).mono ?_
          rintro e w4 ⟨rfl, hr4, hch4, hs4⟩
          have HI4 : Hid (K2 w w4 p' c' L (i + 1) ps (.slice Av m cv)) :=
            ⟨HI.out.own.kept (Ch.toGrown hch4) (RPair.own_not_chan HI.out.own HR.out), hr4, HI.out.len, fun j h h' => (HI.out.blk j h h').ch hch4 (HR.out.far_ (HI.out.blk j h h')), Ch.after HI.out.below hch4 HI.out.below.size (fun j hj => by omega)⟩
          have hg4 := HG.out.ch hch4 (HR.out.far_ HG.out)
          have g0 := hg4.cell 0
          have g1 := hg4.cell 1
          simp at g0 g1
          have hcx := HC.out w4 HI4.out.below
          obtain ⟨ga, rfl, a0, a1⟩ : ∃ ga, Av = some ⟨ga, 0, none⟩ ∧ w4.cell? ⟨ga, i * 2, none⟩ = some (.int .i64 (i : Int)) ∧ w4.cell? ⟨ga, i * 2 + 1, none⟩ = some (.string s) := by
            have ho := HI4.out.own
            have hlm := hl.out
            rcases ho.2 with ⟨h0, _⟩ | ⟨ga, cpa, cur, e, _⟩
            · cases h0; omega
            · cases e
              have h1 := ho.cellAt (i * 2) (by omega)
              have h2 := ho.cellAt (i * 2 + 1) (by omega)
              have hrg := row_get L i hiL
              rw [HLi.out] at hrg
              exact ⟨ga, rfl, by rw [h1]; exact hrg.1, by rw [h2]; exact hrg.2⟩
          clear hr4 hch4 hs4 hg4 HG HR HC
          go_wp2
          go_quiet (fail)
          go_wp2
          go_roundw
          case rel =>
            have h := HI4.out
            exact ⟨i + 1, by omega, by go_num, h.own, ⟨h.rb.head, h.rb.chan⟩, h.len, h.blk, ⟨h.below.os, h.below.tape, h.below.output, h.below.size, h.below.block⟩⟩
          case measure => simp [intOf]; omega
        · have hR := HI.out.rb
          have him2 : i = m := by omega
          rw [List.drop_eq_nil_of_le (by have := HI.out.len; have := hl.out; omega)] at hR
          have HR := Lib.hid hR
          clear hR
          go_wp2_with fail
          refine (RPtr.take_none HR).mono ?_
          rintro e w' ⟨rfl, rfl⟩
          go_wp2_with fail
          refine (awake_any _).mono ?_
          rintro e w6 ⟨rfl, hb6⟩
          have HB6 := Lib.hid (keep_call HI.out.below hb6)
          clear hb6
          go_wp2
          go_ret
          exact ⟨rfl, HB6.out⟩

theorem kinds_any (A : Option Addr) (m cp : Nat) (L : PL) (w : World) (hrow : m ≤ 9223372036854775807) (hl : Hid (L.length = m))
    (HX : Hid (∀ k, k < m → ∃ b off s, A = some ⟨b, off, none⟩ ∧ L[k]? = some ((k : Int), s) ∧ ∀ W : World, Below w.heap.size w W → W.cell? ⟨b, off + k, none⟩ = some (.string s))) :
    Calls Try.prog 3 #[.slice A m cp] w (Yes w) := by
  by_cases hm : m ≤ 60
  · exact kinds_main A m cp L w hm hl HX
  · have hm' : 60 < m := by omega
    clear hl HX
    go_enter Try.func3, Try.ntmps3
    go_wp2_with fail
    refine (awake_any _).mono ?_
    rintro e w6 ⟨rfl, hb6⟩
    go_wp2
    go_ret
    exact ⟨rfl, hb6⟩
end Go.Proofs.Ytpfhmkfeneejeaa

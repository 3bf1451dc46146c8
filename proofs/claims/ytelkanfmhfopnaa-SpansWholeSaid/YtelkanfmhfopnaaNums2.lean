/- The walk of Numbers' iterator. -/
import Derived.Test.YtelkanfmhfopnaaNums
import Derived.TacticsInMore
import Derived.LoopNIn
import Derived.LoopIn
namespace Go.Proofs.Ytelkanfmhfopnaa
open Go.RowKit Go.LawEnd Go.Shelf

attribute [local go_sem] Oper.semAt_some

/-- the blocks that Numbers' iterator reads -/
def NTb (X B : Nat) (v : Value) (b : Nat) : Prop := b = X ∨ ITb B v b
structure NT (W : World) (X B : Nat) (v : Value) (l : List Sp) : Prop where
  box : Blk W X 61 #[.func (.func 41) #[] #[.pointer (some ⟨B, 0, none⟩)]]
  it : IT W B v l
theorem NT.keep {W W' : World} {X B : Nat} {v : Value} {l : List Sp} (h : NT W X B v l) (hk : ∀ b, NTb X B v b → W'.heap[b]? = W.heap[b]?) : NT W' X B v l :=
  ⟨(hk X (.inl rfl)).trans h.box, h.it.keep fun b hb => hk b (.inr hb)⟩
theorem NT.blt {W : World} {X B : Nat} {v : Value} {l : List Sp} (h : NT W X B v l) {b : Nat} (hb : NTb X B v b) : b < W.heap.size := by
  rcases hb with rfl | hb
  · exact h.box.lt
  · exact h.it.blt hb
abbrev encI (x : Int) : Array Value := #[.int .i64 x]

set_option maxRecDepth 100000 in
set_option maxHeartbeats 3200000 in
theorem nums_deep {w : World} {X B : Nat} {v : Value} {l : List Sp} (hok : Hid (OkS l)) (hw : NT w X B v l) :
    SeqDeep Fence.wide 8 Try.prog 36 #[.pointer (some ⟨X, 0, none⟩)] encI (NTb X B v) (fun ys => ys = nums l) (fun _ => True) (NxL (nums l)) w := by
  intro l0 J Jx W hW hJ hJx hY h0
  have hI := hw.keep fun b hb => hW.block b (hw.blt hb)
  have HY := Lib.hid hY
  have HJ := Lib.hid hJ
  have HJX := Lib.hid hJx
  have HN := Lib.hid hI
  have H0 := Lib.hid h0
  have c0 : W.cell? ⟨X, 0, none⟩ = some (.func (.func 41) #[] #[.pointer (some ⟨B, 0, none⟩)]) := by simpa using hI.box.cell 0
  have hX : X < W.heap.size := hI.box.lt
  clear hY hJ hJx hI h0 hw hW
  refine callsIn_of_wp_marks Try.func36 rfl trivial ?_ rfl
  simp only [Try.ntmps36, List.size_toArray, List.length_cons, List.length_nil, Nat.reduceAdd, Nat.reduceSub, Array.replicate_succ, Array.replicate_zero, List.push_toArray, List.append_toArray, List.nil_append, List.cons_append]
  refine wpIn_wide.2 ?_
  obtain ⟨P2, hP2⟩ : ∃ y, y = W.heap.size := ⟨_, rfl⟩
  obtain ⟨V, hV⟩ : ∃ y, y = W.alloc (.cells #[.func (.yield l0) #[] #[]] 48) := ⟨_, rfl⟩
  have HBV : Hid (Below W.heap.size W V) := by rw [hV]; exact (Below.refl _ W).alloc (Nat.le_refl _) _
  have HP2 : Hid (Blk V P2 48 #[.func (.yield l0) #[] #[]]) := by rw [hV, hP2]; exact Blk.new _ _ _
  have HPS : Hid (W.heap.size ≤ P2) := Nat.le_of_eq hP2.symm
  have HNV : Hid (NT V X B v l) := HN.out.keep fun b hb => HBV.out.block b (HN.out.blt hb)
  have H0V : Hid (J [] V) := own_below HJ.out H0.out HBV.out
  go_wp2_with fail
  rw [← hV, ← hP2]
  clear hV hP2 c0
  refine (wpIn_wide (n := 8)).1 ?_
  have hlen := hok.out.len
  have HLT : Hid (P2 < V.heap.size) := HP2.out.lt
  have HWV : Hid (W.heap.size ≤ V.heap.size) := HBV.out.size
  refine rangeFunc_deep_box rfl (by omega) (gf := 41) (lb := #[.pointer (some ⟨B, 0, none⟩)]) rfl trivial (enters_of Try.func41 (by kernel_rfl) rfl)
    (vals_deep 7 (by omega) (by omega) HNV.out.it) (fun b hb => HNV.out.it.blt hb) (fun _ => rfl)
    (fun pre U => V.heap.size ≤ U.heap.size ∧ J (nums pre) U ∧ Blk U P2 48 #[.func (.yield l0) #[] #[]])
    (fun _ U => ∃ pre, Jx pre U)
    (OwnFrom.and (fun _ _ _ _ hs hg _ => Nat.le_trans hs hg.size) (OwnFrom.and (fun s A D row hs hg hr => HJ.out (nums s) A D row hs hg fun r e => ⟨Nat.le_trans HWV.out (hr r e).1, (hr r e).2⟩)
      (fun s A D row hs hg hr => (hg.block P2 hs.lt (fun e => by have := (hr P2 e.symm).1; have := HLT.out; omega)).trans hs)))
    (fun s A D row hs hg hr => by obtain ⟨pre, h⟩ := hs; exact ⟨pre, HJX.out pre A D row h hg fun r e => ⟨Nat.le_trans HWV.out (hr r e).1, (hr r e).2⟩⟩)
    ⟨Nat.le_refl _, H0V.out, HP2.out⟩ 26 (fun x => #[.int .i64 x.1, .int .i64 x.2]) ?round ?done ?stop
  case round =>
    intro l1 pre x U K hi0 hnx hK
    gi_wp2
    clear hi0
    obtain ⟨k, hk, rfl, rfl⟩ := hnx
    have hv := hok.out.val l[k] (List.getElem_mem hk)
    have hnx : ∀ i, i < l[k].2.toNat → NxL (nums l) (nums (l.take k) ++ numsOf l[k] i) (l[k].1 + (i : Int)) := fun i hi => nums_next hk hi
    have htk := nums_take hk
    obtain ⟨y, hy⟩ : ∃ y, y = l[k] := ⟨_, rfl⟩
    have hts : l.take (k + 1) = l.take k ++ [l[k]] := List.take_succ_eq_append_getElem hk
    rw [← hy] at hv hnx htk hts ⊢
    rw [hts] at htk
    obtain ⟨P, hP⟩ : ∃ P, P = l.take k := ⟨_, rfl⟩
    rw [← hP] at hnx htk ⊢
    have HNX := Lib.hid hnx
    have HTK := Lib.hid htk
    obtain ⟨y0, y1⟩ := y
    unfold en at hv
    simp only [] at hv
    obtain ⟨hv0, hv1, hv2⟩ := hv
    generalize U.heap.size = Pb
    intro l2 U1 hl2 hi hPb hkb
    obtain ⟨hsz, hj, hp2⟩ := hi
    clear hy hts hP hnx htk hX
    have HSZ := Lib.hid hsz
    have HLP := Lib.hid hp2.lt
    have k8 : U1.cell? ⟨Pb, 1, none⟩ = some (.int .i64 y1) := by simpa using hkb.cell 1
    have HS0 : Hid (J (nums P ++ numsOf (y0, y1) 0) U1) := by
      rw [show numsOf (y0, y1) 0 = [] from rfl, List.append_nil]; exact hj
    have HK0 := Lib.hid hp2
    have HK1 := Lib.hid hkb
    clear hj hp2 hkb hsz
    gi_wp2
    clear k8
    gi_loopw [4, 9] (fun _ i9 wr => ∃ i : Nat, (i : Int) ≤ y1 ∧ i9 = .int .i64 i ∧ Hid (Stays W.heap.size (NTb X B v) U1 wr) ∧ Hid (J (nums P ++ numsOf (y0, y1) i) wr) ∧ Hid (Blk wr P2 48 #[.func (.yield l0) #[] #[]]) ∧ Hid (Blk wr Pb 26 #[.int .i64 y0, .int .i64 y1])) (fun _ i9 _ => y1.toNat - (intOf i9).toNat)
    case atStart => exact ⟨0, by omega, rfl, Stays.refl _ _ _, HS0, HK0, HK1⟩
    case round =>
      clear HS0 HK0 HK1
      obtain ⟨i, hi, rfl, HST, HJI, HK0, HK1⟩ := hrel
      have k0 : wr.cell? ⟨P2, 0, none⟩ = some (.func (.yield l0) #[] #[]) := by simpa using HK0.out.cell 0
      have k1 : wr.cell? ⟨Pb, 0, none⟩ = some (.int .i64 y0) := by simpa using HK1.out.cell 0
      by_cases hiy : (i : Int) < y1
      · have d1 : decide ((i : Int) < y1) = true := decide_eq_true hiy
        have e7 : IntKind.i64.wrap (y0 + (i : Int)) = y0 + i := IntWalk.i64_in _ (by omega)
        obtain ⟨fn, tmps, assign, body, hy, hR⟩ := HY.out (nums P ++ numsOf (y0, y1) i) (y0 + (i : Int)) wr HJI.out (HNX.out i (by show i < y1.toNat; omega))
        have HRR := Lib.hid hR
        have HSUC : Hid (numsOf (y0, y1) (i + 1) = numsOf (y0, y1) i ++ [y0 + (i : Int)]) := numsOf_succ _ _
        clear hR
        gi_wp2
        refine (roundIn_any (F := Fence.wide) rfl HRR.out).mono ?_
        rintro e W3 (⟨rfl, hJ3, hk3⟩ | ⟨rfl, hJx3, hk3⟩)
        · have HST3 := Lib.hid (HST.out.trans hk3)
          have HJ3 : Hid (J (nums P ++ numsOf (y0, y1) (i + 1)) W3) := by
            show J _ _
            rw [HSUC.out, ← List.append_assoc]; exact hJ3
          have HK03 : Hid (Blk W3 P2 48 #[.func (.yield l0) #[] #[]]) := (hk3.far P2 HPS.out HK0.out.lt).trans HK0.out
          have HK13 : Hid (Blk W3 Pb 26 #[.int .i64 y0, .int .i64 y1]) := (hk3.far Pb (Nat.le_trans HWV.out hPb) HK1.out.lt).trans HK1.out
          clear hJ3 hk3 k0 k1 hy HK0 HK1 HJI HST
          gi_wp2
          go_roundw
          case rel => exact ⟨i + 1, by omega, by go_num, HST3, HJ3, HK03, HK13⟩
          case measure => simp [intOf]; omega
        · have HST3 := Lib.hid (HST.out.trans hk3)
          have HJ3 := Lib.hid hJx3
          clear hJx3 hk3 k0 k1 hy HK0 HK1 HJI HST
          gi_wp2
          exact ⟨⟨HST3.out.size, fun b hb hb2 => HST3.out.far b (Nat.le_trans HWV.out hb) hb2, fun b hb => HST3.out.near b (.inr hb)⟩, _, HJ3.out⟩
      · have d1 : decide ((i : Int) < y1) = false := decide_eq_false hiy
        have hiy2 : i = y1.toNat := by omega
        subst hiy2
        clear k0 k1
        gi_wp2
        refine ⟨⟨HST.out.size, fun b hb hb2 => HST.out.far b (Nat.le_trans HWV.out hb) hb2, fun b hb => HST.out.near b (.inr hb)⟩, Nat.le_trans HSZ.out HST.out.size, ?_, HK0.out⟩
        rw [HTK.out]
        exact HJI.out
  case stop =>
    rintro D1 pre U hD1 _ ⟨pre2, hjx⟩ hK1
    have HD := Lib.hid (HJX.out pre2 U _ (some D1) hjx (grownBy_putObj' U D1 (.deferred none)) (fun r e => by cases e; exact ⟨Nat.le_trans HWV.out hD1, _, hK1, rfl⟩))
    gi_wp2
    refine ⟨by simp, .inl ⟨_, _, rfl, run_takeDeferred hK1, ?_⟩⟩
    exact ⟨_, results_none rfl _ _ _, ⟨_, rfl⟩, .inr ⟨pre2, trivial, HD.out⟩⟩
  case done =>
    rintro D1 ys U hD1 rfl hi1 hK1
    have HD := Lib.hid (HJ.out (nums ys) U _ (some D1) hi1.2.1 (grownBy_putObj' U D1 (.deferred none)) (fun r e => by cases e; exact ⟨Nat.le_trans HWV.out hD1, _, hK1, rfl⟩))
    clear hi1
    gi_wp2
    refine ⟨by simp, .inl ⟨_, _, rfl, run_takeDeferred hK1, ?_⟩⟩
    exact ⟨_, results_none rfl _ _ _, ⟨_, rfl⟩, .inl ⟨_, rfl, HD.out⟩⟩
end Go.Proofs.Ytelkanfmhfopnaa

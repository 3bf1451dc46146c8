/- The walks of Numbers and of its iterator. -/
import Derived.Test.YtelkanfmhfopnaaIt
import Derived.Test.YtelkanfmhfopnaaDeepR
namespace Go.Proofs.Ytelkanfmhfopnaa
open Go.RowKit Go.LawEnd Go.Shelf

attribute [local go_sem] Oper.semAt_some

/-- what comes next of a list -/
def NxL {α : Type} (l : List α) (pre : List α) (x : α) : Prop := ∃ k, ∃ h : k < l.length, pre = l.take k ∧ x = l[k]
theorem Stays.it {B : Nat} {W W' : World} {B0 : Nat} {v : Value} {l : List Sp} (h : Stays B (ITb B0 v) W W') (hi : IT W B0 v l) : IT W' B0 v l := hi.keep h.near
theorem own_below {α : Type} {B : Nat} {J : List α → World → Prop} (h : OwnFrom B J) {s : List α} {W W' : World} (hJ : J s W) (hb : Below W.heap.size W W') : J s W' :=
  h s W W' none hJ ⟨hb.os, hb.tape, hb.output, hb.size, fun i hi _ => hb.block i hi⟩ (fun r e => by cases e)

set_option maxRecDepth 100000 in
set_option maxHeartbeats 3200000 in
theorem vals_deep (n : Nat) (hn : 1 ≤ n) {w : World} {B : Nat} {v : Value} {l : List Sp} (hl : l.length ≤ 2000000) (hw : IT w B v l) :
    SeqDeep Fence.wide n Try.prog 41 #[.pointer (some ⟨B, 0, none⟩)] encS (ITb B v) (fun ys => ys = l) (fun _ => True) (NxL l) w := by
  intro l0 J Jx W hW hJ hJx hY h0
  have hI := hw.below hW (Nat.le_refl _)
  have HY := Lib.hid hY
  have HA := Lib.hid hJ
  have HIT := Lib.hid hI
  have H0 := Lib.hid h0
  obtain ⟨A, c, rfl, _⟩ := SpArg.of_own hI.row
  have c0 : W.cell? ⟨B, 0, none⟩ = some (.slice A l.length c) := by simpa using hI.box.cell 0
  clear hY hJ hJx hI h0 hw
  refine callsIn_wide.2 ?_
  go_enter Try.func41, Try.ntmps41
  go_wp2_with fail
  clear c0
  go_loopw [7] (fun i wr => ∃ k : Nat, k ≤ l.length ∧ i = .int .i64 k ∧ J (l.take k) wr ∧ IT wr B (.slice A l.length c) l) (fun i _ => l.length - (intOf i).toNat)
  case atStart => exact ⟨0, by omega, rfl, H0.out, HIT.out⟩
  case round =>
    clear H0 HIT
    obtain ⟨k, hk, rfl, hj, hi⟩ := hrel
    have HJ := Lib.hid hj
    have HI := Lib.hid hi
    clear hj hi
    by_cases hkl : k < l.length
    · obtain ⟨A', c', e, hA'⟩ := SpArg.of_own HI.out.row
      injection e with e1 _ e2
      subst e1 e2
      obtain ⟨b, off, rfl, hb, c0, c1⟩ := hA' k hkl
      have hts : l.take (k + 1) = l.take k ++ [l[k]] := List.take_succ_eq_append_getElem hkl
      have hnx : NxL l (l.take k) l[k] := ⟨k, hkl, rfl, rfl⟩
      obtain ⟨y, hy⟩ : ∃ y, y = l[k] := ⟨_, rfl⟩
      rw [← hy] at c0 c1 hts hnx
      clear hy hA' hb
      obtain ⟨y0, y1⟩ := y
      have HT := Lib.hid hts
      clear hts
      obtain ⟨fn, tmps, assign, body, hy, hR⟩ := HY.out (l.take k) (y0, y1) (wr.alloc (.cells #[.int .i64 y0, .int .i64 y1] 26)) (own_below HA.out HJ.out ((Below.refl _ _).alloc (Nat.le_refl _) _)) hnx
      have HRR := Lib.hid hR
      have HIA := Lib.hid (HI.out.below ((Below.refl wr.heap.size wr).alloc (Nat.le_refl _) (.cells #[.int .i64 y0, .int .i64 y1] 26)) (Nat.le_refl _))
      clear hR hnx
      go_upto_region 3 with (fail)
      refine (wpIn_wide (n := n)).1 ?_
      gi_wp2
      refine HRR.out.mono ?_
      rintro e W3 (⟨rfl, hJ3, hk3⟩ | ⟨rfl, hJx3, hk3⟩)
      · have HJ3 := Lib.hid hJ3
        have HI3 := Lib.hid (HIA.out.keep hk3.near)
        clear hJ3 hk3
        gi_wp2
        go_wp2
        go_roundw
        case rel => exact ⟨k + 1, by omega, by go_num, by rw [HT.out]; exact HJ3.out, HI3.out⟩
        case measure => simp [intOf]; omega
      · have HJ3 := Lib.hid hJx3
        clear hJx3 hk3
        gi_wp2
        go_wp2
        refine bodyPost_ret (results_none rfl _ _ _) rfl ?_
        exact ⟨⟨_, rfl⟩, .inr ⟨_, trivial, HJ3.out⟩⟩
    · obtain rfl : k = l.length := by omega
      have HJ' := HJ
      rw [List.take_length] at HJ'
      go_wp2
      go_end0
      exact ⟨⟨_, rfl⟩, .inl ⟨_, rfl, HJ'.out⟩⟩

/-- the numbers of spans, rising -/
def numsOf (y : Sp) (k : Nat) : List Int := (List.range k).map fun i : Nat => y.1 + (i : Int)
def nums (l : List Sp) : List Int := l.flatMap fun y => numsOf y y.2.toNat
theorem numsOf_succ (y : Sp) (k : Nat) : numsOf y (k + 1) = numsOf y k ++ [y.1 + (k : Int)] := by
  unfold numsOf
  rw [List.range_succ, List.map_append]; rfl
theorem nums_snoc (l : List Sp) (y : Sp) : nums (l ++ [y]) = nums l ++ numsOf y y.2.toNat := by simp [nums]
theorem nx_of {α : Type} {l X Y : List α} {v : α} (e : l = X ++ v :: Y) : NxL l X v := by
  subst e
  exact ⟨X.length, by simp, by simp, by simp⟩
theorem nums_next {l : List Sp} {k i : Nat} (hk : k < l.length) (hi : i < l[k].2.toNat) : NxL (nums l) (nums (l.take k) ++ numsOf l[k] i) (l[k].1 + (i : Int)) := by
  have e1 : nums l = nums (l.take k) ++ (numsOf l[k] l[k].2.toNat ++ nums (l.drop (k + 1))) := by
    have h0 : l = (l.take k ++ [l[k]]) ++ l.drop (k + 1) := by rw [← List.take_succ_eq_append_getElem hk, List.take_append_drop]
    have h1 : nums l = nums ((l.take k ++ [l[k]]) ++ l.drop (k + 1)) := congrArg nums h0
    rw [h1]
    unfold nums
    rw [List.flatMap_append, List.flatMap_append]
    simp
  have e2 : numsOf l[k] l[k].2.toNat = (numsOf l[k] i ++ [l[k].1 + (i : Int)]) ++ (numsOf l[k] l[k].2.toNat).drop (i + 1) := by
    have h1 : (numsOf l[k] l[k].2.toNat).take (i + 1) = numsOf l[k] (i + 1) := by
      unfold numsOf
      rw [← List.map_take, List.take_range, Nat.min_eq_left (by omega)]
    rw [← numsOf_succ, ← h1, List.take_append_drop]
  refine nx_of (Y := (numsOf l[k] l[k].2.toNat).drop (i + 1) ++ nums (l.drop (k + 1))) ?_
  rw [e1]
  conv => lhs; rw [e2]
  simp [List.append_assoc]
theorem nums_take {l : List Sp} {k : Nat} (hk : k < l.length) : nums (l.take (k + 1)) = nums (l.take k) ++ numsOf l[k] l[k].2.toNat := by
  rw [List.take_succ_eq_append_getElem hk, nums_snoc]
end Go.Proofs.Ytelkanfmhfopnaa

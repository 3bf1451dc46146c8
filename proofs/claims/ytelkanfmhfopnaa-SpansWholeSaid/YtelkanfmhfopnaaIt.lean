/- Clone, Values, All, and the iterator. -/
import Derived.Test.YtelkanfmhfopnaaNew
import Derived.Test.YtelkanfmhfopnaaLay
import Derived.Test.YtelkanfmhfopnaaSepR
import Derived.Test.YtelkanfmhfopnaaQbIn
import Derived.Deep.Onto
namespace Go.Proofs.Ytelkanfmhfopnaa
open Go.RowKit Go.LawEnd Go.Shelf

theorem clone_any {v : Value} (l : List Sp) (w : World) (h : w.ownsRow 0 26 2 v l.length (sps l)) (h0 : l = [] → v = .slice none 0 0) (hl : l.length ≤ 4000000) :
    Calls Try.prog 37 #[v] w fun e w' => ∃ v', e = .returned v' ∧ Hv w No [rsA v' l] w' ∧ (l = [] → v' = .slice none 0 0) := by
  obtain ⟨i0, hi0, hz0, hz1, hz2⟩ := info_parts infoSp
  rcases h.2 with ⟨rfl, hn⟩ | ⟨g, cap, cur, rfl, _, hh, hnc, _⟩
  · have hnil := List.eq_nil_of_length_eq_zero hn
    subst hnil
    refine (AnyE.slices_Clone_nil cloneS 0 0 w).mono ?_
    rintro e w' ⟨rfl, rfl⟩
    exact ⟨_, rfl, (Hv.begin w').nilRow 26 2, fun _ => rfl⟩
  · have hc := AnyE.slices_Clone cloneS i0 _ 2 16 hi0 hz0 hz1 hz2 rfl (by decide) Try.sizeOf26 g 0 l.length cap (sps l) w (sps_length l) (by unfold maxLen; omega) (by omega) (fun j u hu => by
      have hj : j < (sps l).length := (List.getElem?_eq_some_iff.1 hu).1
      rw [Nat.zero_add, h.cellAt j (by rw [sps_length] at hj; exact hj)]; exact hu) (sps_cell l)
    refine Calls.mono (R := _) hc ?_
    rintro e w' ⟨v', rfl, hown, hnn, hb⟩
    refine ⟨v', rfl, hv_fresh (rsA v' l) (T := fun b => v'.ownBlock = some b) ⟨World.ownsRow.mono hown (Nat.zero_le _), fun _ => Iff.rfl⟩ (fun b hb' => (World.ownsRow.lt hown b hb').1) hb, fun e => ?_⟩
    have := h0 e
    cases this
/-- what the iterator reads -/
structure IT (W : World) (B : Nat) (v : Value) (l : List Sp) : Prop where
  box : Blk W B 22 #[v]
  row : W.ownsRow 0 26 2 v l.length (sps l)
def ITb (B : Nat) (v : Value) (b : Nat) : Prop := b = B ∨ v.ownBlock = some b
section
variable {W W' : World} {B : Nat} {v : Value} {l : List Sp}
theorem row_keep {e : TypeId} {size n : Nat} {xs : List Value} (h : W.ownsRow 0 e size v n xs) (hk : ∀ b, v.ownBlock = some b → W'.heap[b]? = W.heap[b]?) : W'.ownsRow 0 e size v n xs :=
  ((rowA v e size n xs).keep (S := fun b => v.ownBlock = some b) ⟨h, fun _ => Iff.rfl⟩ hk).1
theorem IT.keep (h : IT W B v l) (hk : KpT (ITb B v) W W') : IT W' B v l := ⟨(hk B (.inl rfl)).trans h.box, row_keep h.row fun b hb => hk b (.inr hb)⟩
theorem IT.blt (h : IT W B v l) {b : Nat} (hb : ITb B v b) : b < W.heap.size := by
  rcases hb with rfl | hb
  · exact h.box.lt
  · exact (h.row.lt b hb).2
theorem IT.below {C : Nat} (h : IT W B v l) (hb : Below C W W') (hB : W.heap.size ≤ C) : IT W' B v l :=
  h.keep fun b hb' => hb.block b (Nat.lt_of_lt_of_le (h.blt hb') hB)
end
def itA (B : Nat) (v : Value) (l : List Sp) : Atom where
  P w S := IT w B v l ∧ ∀ b, S b ↔ ITb B v b
  lt h hb := h.1.blt ((h.2 _).1 hb)
  keep h hk := ⟨h.1.keep fun b hb => hk b ((h.2 b).2 hb), h.2⟩
theorem celly_it (C B : Nat) (v : Value) (l : List Sp) : (itA B v l).Celly C := by
  intro w S b h hb
  rcases (h.2 _).1 hb with rfl | hb'
  · exact .inr ⟨_, h.1.box, rfl⟩
  · rcases celly_row C v _ _ _ _ w (fun b => v.ownBlock = some b) b ⟨h.1.row, fun _ => Iff.rfl⟩ hb' with h' | h'
    · exact .inl h'
    · exact .inr h'
theorem misses_it {B b : Nat} {v : Value} {l : List Sp} (h : ¬ ITb B v b) : (itA B v l).Misses b := fun _ _ hp hb => h ((hp.2 b).1 hb)
theorem hv_it {w0 w : World} {S : Nat → Prop} {B : Nat} {v : Value} {l : List Sp} {R : List Atom} (h : Hv w0 S (blkA B 22 #[v] :: rsA v l :: R) w) : Hv w0 S (itA B v l :: R) w := by
  obtain ⟨T, hT, hJ⟩ := Hv.use [blkA B 22 #[v], rsA v l] R h
  refine hJ [itA B v l] w (Hv.start (Sep.one ?_))
  obtain ⟨S1, S2, h1, h2, _, hu⟩ := hT
  refine ⟨⟨h1.1, h2.out.1⟩, fun b => ?_⟩
  rw [hu b, h1.2 b, h2.out.2 b]
  rfl

theorem values_any (A : Option Addr) (n c : Nat) (w : World) :
    Calls Try.prog 38 #[.slice A n c] w fun e w' => e = .returned (.func (.func 41) #[] #[.pointer (some ⟨w.heap.size, 0, none⟩)]) ∧ w' = w.alloc (.cells #[.slice A n c] 22) := by
  go_enter Try.func38, Try.ntmps38
  go_wp2
  go_ret
  exact ⟨rfl, rfl⟩
/-- All: an iterator over a copy of the spans -/
theorem all_any {T : Nat → Prop} (s : Nat) (l : List Sp) (w : World) (h : Hid (Sep [setA s l] w T)) (hok : l.length ≤ 2000000) :
    Calls Try.prog 27 #[.pointer (some ⟨s, 0, none⟩)] w fun e w' => ∃ B v, e = .returned (.func (.func 41) #[] #[.pointer (some ⟨B, 0, none⟩)]) ∧ Hv w No [itA B v l] w' := by
  obtain ⟨v, hv⟩ := (Hv.start h.out).open_
  have hr := hv.row (i := 1) rfl
  have h0 : l = [] → v = .slice none 0 0 := hv.pure_ (i := 2) rfl
  have c0 : w.cell? ⟨s, 0, none⟩ = some v := by simpa using (hv.blk (i := 0) rfl).cell 0
  have HC := Lib.hid (clone_any l w hr h0 (by omega))
  obtain ⟨A, c, rfl, _⟩ := SpArg.of_own hr
  clear hr h0 hv
  go_enter Try.func27, Try.ntmps27
  go_wp2_with fail
  refine HC.out.mono ?_
  rintro e w1 ⟨v', rfl, h1, _⟩
  obtain ⟨A', c', rfl, _⟩ := SpArg.of_own (h1.row (i := 0) rfl)
  have HV := Lib.hid h1
  clear h1 c0 HC
  go_wp2_with fail
  refine (values_any A' l.length c' w1).mono ?_
  rintro e w2 ⟨rfl, rfl⟩
  go_wp2
  go_ret
  exact ⟨w1.heap.size, .slice A' l.length c', rfl, hv_it (HV.out.alloc 22 #[.slice A' l.length c'])⟩

abbrev encS (x : Sp) : Array Value := #[.agg #[.int .i64 x.1, .int .i64 x.2]]
theorem abides_below {J : List Sp → World → Prop} {B : Nat} (h : AbidesFrom B J) {s : List Sp} {W W' : World} (hJ : J s W) (hb : Below W.heap.size W W') : J s W' :=
  h s W W' none hJ ⟨hb.os, hb.tape, hb.output, hb.size, fun i hi _ => hb.block i hi⟩ (fun r e => by cases e)

set_option maxRecDepth 100000 in
set_option maxHeartbeats 3200000 in
theorem vals_in (n : Nat) (hn : 1 ≤ n) (l0 B : Nat) (v : Value) (l : List Sp) (hl : l.length ≤ 2000000) (J Jx : List Sp → World → Prop) (W : World) (hJa : AbidesFrom W.heap.size J)
    (hY : ∀ pre x W1, J pre W1 → pre.length < l.length → YieldAt Fence.wide (n - 1) Try.prog l0 (encS x) W1 fun e W' =>
      (e = .returned (.bool true) ∧ J (pre ++ [x]) W' ∧ KpT (ITb B v) W1 W') ∨ (e = .returned (.bool false) ∧ Jx (pre ++ [x]) W'))
    (hI : IT W B v l) (h0 : J [] W) :
    CallsIn Fence.wide n Try.prog 41 #[.func (.yield l0) #[] #[], .pointer (some ⟨B, 0, none⟩)] W fun e W' => (∃ v, e = .returned v) ∧
      ((∃ ys, ys = l ∧ J ys W') ∨ (∃ pre, (∃ k, k ≤ l.length ∧ pre = l.take k) ∧ Jx pre W')) := by
  have HY := Lib.hid hY
  have HA := Lib.hid hJa
  have HIT := Lib.hid hI
  have H0 := Lib.hid h0
  obtain ⟨A, c, rfl, _⟩ := SpArg.of_own hI.row
  have c0 : W.cell? ⟨B, 0, none⟩ = some (.slice A l.length c) := by simpa using hI.box.cell 0
  clear hY hJa hI h0
  refine callsIn_wide.2 ?_
  go_enter Try.func41, Try.ntmps41
  go_wp2_with fail
  clear c0
  go_loopw [7] (fun i wr => ∃ k : Nat, k ≤ l.length ∧ i = .int .i64 k ∧ J (l.take k) wr ∧ IT wr B (.slice A l.length c) l) (fun i _ => l.length - (intOf i).toNat)
  case atStart => exact ⟨0, by omega, rfl, H0.out, HIT.out⟩
  case round =>
    clear H0 HIT
    obtain ⟨k, hk, rfl, hj, hi⟩ := hrel
    have HJ := Lib.hid hj
    have HI := Lib.hid hi
    clear hj hi
    by_cases hkl : k < l.length
    · obtain ⟨A', c', e, hA'⟩ := SpArg.of_own HI.out.row
      injection e with e1 _ e2
      subst e1 e2
      obtain ⟨b, off, rfl, hb, c0, c1⟩ := hA' k hkl
      have hts : l.take (k + 1) = l.take k ++ [l[k]] := List.take_succ_eq_append_getElem hkl
      obtain ⟨y, hy⟩ : ∃ y, y = l[k] := ⟨_, rfl⟩
      rw [← hy] at c0 c1 hts
      clear hy hA' hb
      obtain ⟨y0, y1⟩ := y
      have HT := Lib.hid hts
      clear hts
      obtain ⟨fn, tmps, assign, body, hy, hR⟩ := HY.out (l.take k) (y0, y1) (wr.alloc (.cells #[.int .i64 y0, .int .i64 y1] 26)) (abides_below HA.out HJ.out ((Below.refl _ _).alloc (Nat.le_refl _) _)) (by simp; omega)
      have HRR := Lib.hid hR
      have HIA := Lib.hid (HI.out.below ((Below.refl wr.heap.size wr).alloc (Nat.le_refl _) (.cells #[.int .i64 y0, .int .i64 y1] 26)) (Nat.le_refl _))
      clear hR
      go_upto_region 3 with (fail)
      refine (wpIn_wide (n := n)).1 ?_
      gi_wp2
      refine HRR.out.mono ?_
      rintro e W3 (⟨rfl, hJ3, hk3⟩ | ⟨rfl, hJx3⟩)
      · have HJ3 := Lib.hid hJ3
        have HI3 := Lib.hid (HIA.out.keep hk3)
        clear hJ3 hk3
        gi_wp2
        go_wp2
        go_roundw
        case rel => exact ⟨k + 1, by omega, by go_num, by rw [HT.out]; exact HJ3.out, HI3.out⟩
        case measure => simp [intOf]; omega
      · have HJ3 := Lib.hid hJx3
        clear hJx3
        gi_wp2
        go_wp2
        refine bodyPost_ret (results_none rfl _ _ _) rfl ?_
        exact ⟨⟨_, rfl⟩, .inr ⟨_, ⟨k + 1, by omega, rfl⟩, by rw [HT.out]; exact HJ3.out⟩⟩
    · obtain rfl : k = l.length := by omega
      have HJ' := HJ
      rw [List.take_length] at HJ'
      go_wp2
      go_end0
      exact ⟨⟨_, rfl⟩, .inl ⟨_, rfl, HJ'.out⟩⟩
theorem vals_stops (n : Nat) (hn : 1 ≤ n) {w : World} {B : Nat} {v : Value} {l : List Sp} (hl : l.length ≤ 2000000) (h : IT w B v l) :
    SeqStopsK Fence.wide n Try.prog 41 #[.pointer (some ⟨B, 0, none⟩)] encS (KpT (ITb B v)) (fun ys => ys = l) (fun pre => ∃ k, k ≤ l.length ∧ pre = l.take k) l.length w := by
  intro l0 J Jx W hW hJ _ hY h0
  exact vals_in n hn l0 B v l hl J Jx W hJ hY (h.below hW (Nat.le_refl _)) h0
end Go.Proofs.Ytelkanfmhfopnaa

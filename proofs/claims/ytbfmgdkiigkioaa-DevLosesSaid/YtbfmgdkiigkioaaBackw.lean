/- Backward over writes: the iterator. -/
import Derived.Test.YtbfmgdkiigkioaaStep
import Derived.Test.YtbfmgdkiigkioaaSepR
import Derived.Test.YtbfmgdkiigkioaaQbIn
import Derived.Deep.Onto
namespace Go.Proofs.Ytbfmgdkiigkioaa
open Go.RowKit Go.LawEnd

section
variable {ops : Array Oper} {rest : List Oper} {op : Oper} {a : Act} {w : World} {Q : Exit → Act → World → Prop} {b o : Nat} {p : Wr} {z : Int}
theorem sizeWr : (Try.prog.info? 66).map (·.size) = some 65 := by kernel_rfl
theorem sizeRw : (Try.prog.info? 74).map (·.size) = some 65 := by kernel_rfl
theorem stepIn_load_wr {F : Fence} {n : Nat} (hr : w.rangeAt b o (wrC p)) (hgd : op.guard = none) (x : Operand) (ho : op.op = .load 66 x)
    (hx : a.eval x = .pointer (some ⟨b, o, none⟩)) (h : wpListIn F n Try.prog ops Q rest (a.put op.dst (.agg (wrC p).toArray)) w) : wpListIn F n Try.prog ops Q (op :: rest) a w := by
  refine wpListIn_plain hgd fun K hK => ?_
  unfold Oper.wpIn
  refine ⟨by simp [Oper.about, ho], ?_⟩
  rw [Oper.semAt_plain F _ _ (by rw [ho]; intro c hc'; cases hc')]
  unfold execOp
  simp only [ho, hx, Instr.loadAt, Instr.sureAddr, Sem.run_bind, Sem.run_pure, Result.andThen_ok, run_loadVar_mid w b o 66 (wrC p) _ hr Try.underlying66 rfl (by rw [sizeWr, wrC_length])]
  exact hK _ _ h
theorem stepIn_load_block {F : Fence} {n : Nat} (hr : w.rangeAt b o (markC z)) (hgd : op.guard = none) (x : Operand) (ho : op.op = .load 34 x)
    (hx : a.eval x = .pointer (some ⟨b, o, none⟩)) (h : wpListIn F n Try.prog ops Q rest (a.put op.dst (.agg (markC z).toArray)) w) : wpListIn F n Try.prog ops Q (op :: rest) a w := by
  refine wpListIn_plain hgd fun K hK => ?_
  unfold Oper.wpIn
  refine ⟨by simp [Oper.about, ho], ?_⟩
  rw [Oper.semAt_plain F _ _ (by rw [ho]; intro c hc'; cases hc')]
  unfold execOp
  simp only [ho, hx, Instr.loadAt, Instr.sureAddr, Sem.run_bind, Sem.run_pure, Result.andThen_ok, run_loadVar_mid w b o 34 (markC z) _ hr Try.underlying34 rfl (by rw [size34, markC_length])]
  exact hK _ _ h
theorem step_load_wr (hr : w.rangeAt b o (wrC p)) (hgd : op.guard = none) (x : Operand) (ho : op.op = .load 66 x)
    (hx : a.eval x = .pointer (some ⟨b, o, none⟩)) (h : wpList Try.prog ops Q rest (a.put op.dst (.agg (wrC p).toArray)) w) : wpList Try.prog ops Q (op :: rest) a w :=
  wpList_load_mid hgd 66 x ho b o hx (wrC p) _ hr Try.underlying66 rfl (by rw [sizeWr, wrC_length]) h
end
theorem zeroWr (w : World) : (zeroValue 66).run Try.prog w = .ok (.agg (wrC (0, 0)).toArray) w := by
  obtain ⟨i, hi, hz, _, _⟩ := infoWr
  simp [zeroValue, typeInfo, hi, hz]
/-- an open write lies where the slice says -/
theorem row_range {w : World} {A : Option Addr} {c n : Nat} {e : TypeId} {l : List Wr} (hr : w.ownsRow 0 e 65 (.slice A n c) l.length (wrs l)) (k : Nat) (hk : k < l.length) :
    ∃ g, A = some ⟨g, 0, none⟩ ∧ g < w.heap.size ∧ w.rangeAt g (k * 65) (wrC l[k]) ∧ w.there g (k * 65) 65 := by
  rcases hr.2 with ⟨_, h0⟩ | ⟨g, cap, cur, e, _, hh, _⟩
  · omega
  · cases e
    have hget := fun j (hj : j < 65) => flat_get wrC 65 wrC_length l k hk j hj
    have hb : ∀ j, j < 65 → k * 65 + j < (wrs l).length := fun j hj => by
      rw [wrs_length]
      have : (k + 1) * 65 ≤ l.length * 65 := Nat.mul_le_mul_right _ hk
      omega
    refine ⟨g, rfl, lt_of_obj hh, fun j v hv => ?_, fun j hj => ⟨?_, hr.frozenAt _⟩⟩
    · have hj : j < 65 := by have := (List.getElem?_eq_some_iff.1 hv).1; rw [wrC_length] at this; exact this
      have := hb j hj
      rw [hr.cellAt _ (by have := hr.1; omega)]
      exact (hget j hj).trans hv
    · have := hb j hj
      rw [hr.cellAt _ (by have := hr.1; omega), List.getElem?_eq_getElem this]; rfl
theorem range_split {w : World} {g o : Nat} {p : Wr} (h : w.rangeAt g o (wrC p)) : w.cell? ⟨g, o, none⟩ = some (.int .i64 p.1) ∧ w.rangeAt g (o + 1) (markC p.2) := by
  refine ⟨?_, fun j v hv => ?_⟩
  · have := h 0 (.int .i64 p.1) rfl
    rwa [Nat.add_zero] at this
  · have := h (j + 1) v (by unfold wrC; rw [List.getElem?_cons_succ]; exact hv)
    rwa [show o + 1 + j = o + (j + 1) by omega]
/-- what the iterator reads -/
structure IT (W : World) (B : Nat) (v : Value) (l : List Wr) : Prop where
  box : Blk W B 60 #[v]
  row : W.ownsRow 0 66 65 v l.length (wrs l)
def ITb (B : Nat) (v : Value) (b : Nat) : Prop := b = B ∨ v.ownBlock = some b
section
variable {W W' : World} {B : Nat} {v : Value} {l : List Wr}
theorem row_keep {e : TypeId} {size n : Nat} {xs : List Value} (h : W.ownsRow 0 e size v n xs) (hk : ∀ b, v.ownBlock = some b → W'.heap[b]? = W.heap[b]?) : W'.ownsRow 0 e size v n xs :=
  ((rowA v e size n xs).keep (S := fun b => v.ownBlock = some b) ⟨h, fun _ => Iff.rfl⟩ hk).1
theorem IT.keep (h : IT W B v l) (hk : KpT (ITb B v) W W') : IT W' B v l := ⟨(hk B (.inl rfl)).trans h.box, row_keep h.row fun b hb => hk b (.inr hb)⟩
theorem IT.blt (h : IT W B v l) {b : Nat} (hb : ITb B v b) : b < W.heap.size := by
  rcases hb with rfl | hb
  · exact h.box.lt
  · exact (h.row.lt b hb).2
theorem IT.below {C : Nat} (h : IT W B v l) (hb : Below C W W') (hB : W.heap.size ≤ C) : IT W' B v l :=
  h.keep fun b hb' => hb.block b (Nat.lt_of_lt_of_le (h.blt hb') hB)
end
def itA (B : Nat) (v : Value) (l : List Wr) : Atom where
  P w S := IT w B v l ∧ ∀ b, S b ↔ ITb B v b
  lt h hb := h.1.blt ((h.2 _).1 hb)
  keep h hk := ⟨h.1.keep fun b hb => hk b ((h.2 b).2 hb), h.2⟩
theorem celly_it (C B : Nat) (v : Value) (l : List Wr) : (itA B v l).Celly C := by
  intro w S b h hb
  rcases (h.2 _).1 hb with rfl | hb'
  · exact .inr ⟨_, h.1.box, rfl⟩
  · rcases celly_row C v _ _ _ _ w (fun b => v.ownBlock = some b) b ⟨h.1.row, fun _ => Iff.rfl⟩ hb' with h' | h'
    · exact .inl h'
    · exact .inr h'
theorem celly_win (C : Nat) (v : Value) (e : TypeId) (n : Nat) (xs : List Value) : (winA v e n xs).Celly C := by
  intro w S b h hb
  have hv := (h.2 b).1 hb
  obtain ⟨cur, hc⟩ := h.1.obj hv
  exact .inr ⟨_, hc, rfl⟩
theorem hv_it {w0 w : World} {S : Nat → Prop} {B : Nat} {v : Value} {l : List Wr} {R : List Atom} (h : Hv w0 S (blkA B 60 #[v] :: wrA v l :: R) w) : Hv w0 S (itA B v l :: R) w := by
  obtain ⟨T, hT, hJ⟩ := Hv.use [blkA B 60 #[v], wrA v l] R h
  refine hJ [itA B v l] w (Hv.start (Sep.one ?_))
  obtain ⟨S1, S2, h1, h2, _, hu⟩ := hT
  refine ⟨⟨h1.1, h2.out.1⟩, fun b => ?_⟩
  rw [hu b, h1.2 b, h2.out.2 b]
  rfl
theorem it_hv {w0 w : World} {S : Nat → Prop} {B : Nat} {v : Value} {l : List Wr} {R : List Atom} (h : Hv w0 S (itA B v l :: R) w) : Hv w0 S (wrA v l :: R) w := by
  obtain ⟨T, hT, hJ⟩ := Hv.use [itA B v l] R h
  refine hJ [wrA v l] w ?_
  have h1 := hT.out
  refine ⟨fun b => v.ownBlock = some b, Sep.one ⟨h1.1.row, fun _ => Iff.rfl⟩, Ch.refl _ _, fun b hb => .inl ((h1.2 b).2 (.inr hb))⟩
theorem back_any (A : Option Addr) (n c : Nat) (w : World) :
    Calls Try.prog 51 #[.slice A n c] w fun e w' => e = .returned (.func (.func 53) #[] #[.pointer (some ⟨w.heap.size, 0, none⟩)]) ∧ w' = w.alloc (.cells #[.slice A n c] 60) := by
  go_enter Try.func51, Try.ntmps51
  go_wp2
  go_ret
  exact ⟨rfl, rfl⟩
/-- the row told from its end -/
def El (l : List Wr) : List (Nat × Wr) := (List.range l.length).map fun k => (l.length - 1 - k, l[l.length - 1 - k]?.getD (0, 0))
noncomputable abbrev encW (x : Nat × Wr) : Array Value := #[.int .i64 (x.1 : Int), .agg (wrC x.2).toArray]
theorem El_length (l : List Wr) : (El l).length = l.length := by unfold El; simp
theorem El_get {l : List Wr} {k : Nat} (hk : k < l.length) : (El l)[k]? = some (l.length - 1 - k, l[l.length - 1 - k]) := by
  unfold El
  rw [List.getElem?_map, List.getElem?_range hk, Option.map_some, List.getElem?_eq_getElem (show l.length - 1 - k < l.length by omega)]
  rfl
theorem El_take {l : List Wr} {k : Nat} (hk : k < l.length) : (El l).take (k + 1) = (El l).take k ++ [(l.length - 1 - k, l[l.length - 1 - k])] := by
  rw [List.take_add_one, El_get hk]
  rfl
theorem El_snd (l : List Wr) : (El l).map (·.2) = l.reverse := by
  refine List.ext_getElem? fun k => ?_
  by_cases hk : k < l.length
  · rw [List.getElem?_map, El_get hk, List.getElem?_reverse hk, List.getElem?_eq_getElem (show l.length - 1 - k < l.length by omega)]; rfl
  · rw [List.getElem?_eq_none (by simp [El_length]; omega), List.getElem?_eq_none (by simp; omega)]
set_option maxRecDepth 100000 in
set_option maxHeartbeats 3200000 in
theorem back_in (n : Nat) (hn : 1 ≤ n) (l0 B : Nat) (v : Value) (l : List Wr) (hl : l.length ≤ 100000) (J Jx : List (Nat × Wr) → World → Prop) (W : World) (hJa : AbidesFrom W.heap.size J)
    (hY : ∀ pre x W1, J pre W1 → pre.length < l.length → YieldAt Fence.wide (n - 1) Try.prog l0 (encW x) W1 fun e W' =>
      (e = .returned (.bool true) ∧ J (pre ++ [x]) W' ∧ KpT (ITb B v) W1 W') ∨ (e = .returned (.bool false) ∧ Jx (pre ++ [x]) W'))
    (hI : IT W B v l) (h0 : J [] W) :
    CallsIn Fence.wide n Try.prog 53 #[.func (.yield l0) #[] #[], .pointer (some ⟨B, 0, none⟩)] W fun e W' => (∃ v, e = .returned v) ∧
      ((∃ ys, ys = El l ∧ J ys W') ∨ (∃ pre, (∃ k, k ≤ l.length ∧ pre = (El l).take k) ∧ Jx pre W')) := by
  have HY := Lib.hid hY
  have HA := Lib.hid hJa
  have HIT := Lib.hid hI
  have H0 := Lib.hid h0
  obtain ⟨A, c, rfl⟩ := row_form hI.row
  have c0 : W.cell? ⟨B, 0, none⟩ = some (.slice A l.length c) := by simpa using hI.box.cell 0
  obtain ⟨m, hm⟩ : ∃ m, m = l.length := ⟨_, rfl⟩
  have HM := Lib.hid hm
  have HEL : Hid ((El l).length = m) := by show _ = _; rw [El_length, hm]
  rw [← hm] at c0 hl
  clear hY hJa hI h0
  refine callsIn_wide.2 ?_
  have e7 : IntKind.i64.wrap ((m : Int) - 1) = m - 1 := IntWalk.i64_in _ (by omega)
  go_enter Try.func53, Try.ntmps53
  go_wp2_with fail
  clear c0
  go_loopw [3] (fun i wr => ∃ k : Nat, k ≤ m ∧ i = .int .i64 ((m : Int) - 1 - k) ∧ J ((El l).take k) wr ∧ IT wr B (.slice A l.length c) l) (fun i _ => (intOf i + 1).toNat)
  case atStart => exact ⟨0, by omega, congrArg (Value.int .i64) (show (l.length : Int) - 1 = (m : Int) - 1 - ((0 : Nat) : Int) by rw [← HM.out]; omega), H0.out, HIT.out⟩
  case round =>
    clear H0 HIT
    obtain ⟨k, hk, rfl, hj, hi⟩ := hrel
    have HJ := Lib.hid hj
    have HI := Lib.hid hi
    clear hj hi
    have c0 : wr.cell? ⟨B, 0, none⟩ = some (.slice A m c) := by rw [HM.out]; simpa using HI.out.box.cell 0
    by_cases hkl : k < m
    · have hkl' : l.length - 1 - k < l.length := by rw [← hm]; omega
      obtain ⟨b, rfl, hb, hr, _⟩ := row_range HI.out.row (l.length - 1 - k) hkl'
      have hts := El_take (l := l) (k := k) (by rw [← hm]; exact hkl)
      obtain ⟨y, hy⟩ : ∃ y, y = l[l.length - 1 - k] := ⟨_, rfl⟩
      rw [← hy] at hr hts
      obtain ⟨i, hi⟩ : ∃ i, i = l.length - 1 - k := ⟨_, rfl⟩
      rw [← hi] at hr hts
      have hik : (m : Int) - 1 - k = i := by omega
      have him : i < m := by omega
      have hwi : IntKind.i64.wrap ((i : Int) - 1) = i - 1 := IntWalk.i64_in _ (by omega)
      have HNX : Hid ((i : Int) - 1 = (m : Int) - 1 - ((k + 1 : Nat) : Int)) := by show _ = _; omega
      rw [hik]
      have HT := Lib.hid hts
      obtain ⟨fn, tmps, assign, body, hy', hR⟩ := HY.out ((El l).take k) (i, y) wr HJ.out (by simp [El_length]; omega)
      have HRR := Lib.hid hR
      clear hR hts hik hy
      have HII : Hid (i = l.length - 1 - k) := hi
      clear hi hm
      go_upto_region 3 with (fail)
      refine (wpIn_wide (n := n)).1 ?_
      gi_wp2_with (refine stepIn_load_wr hr rfl _ rfl rfl ?_)
      refine HRR.out.mono ?_
      rintro e W3 (⟨rfl, hJ3, hk3⟩ | ⟨rfl, hJx3⟩)
      · have HJ3 := Lib.hid hJ3
        have HI3 := Lib.hid (HI.out.keep hk3)
        clear hJ3 hk3
        gi_wp2
        go_wp2
        go_roundw
        case rel => exact ⟨k + 1, by omega, congrArg (Value.int .i64) HNX.out, by rw [HT.out]; exact HJ3.out, HI3.out⟩
        case measure => show ((i : Int) - 1 + 1).toNat < ((i : Int) + 1).toNat; omega
      · have HJ3 := Lib.hid hJx3
        clear hJx3
        gi_wp2
        go_wp2
        refine bodyPost_ret (results_none rfl _ _ _) rfl ?_
        exact ⟨⟨_, rfl⟩, .inr ⟨_, ⟨k + 1, by rw [← HM.out]; omega, rfl⟩, by rw [HT.out]; exact HJ3.out⟩⟩
    · obtain rfl : k = m := by omega
      have HJ' : Hid (J (El l) wr) := by
        have := HJ.out
        rw [← HEL.out, List.take_length] at this
        exact this
      go_wp2
      go_end0
      exact ⟨⟨_, rfl⟩, .inl ⟨_, rfl, HJ'.out⟩⟩
theorem back_stops (n : Nat) (hn : 1 ≤ n) {w : World} {B : Nat} {v : Value} {l : List Wr} (hl : l.length ≤ 100000) (h : IT w B v l) :
    SeqStopsK Fence.wide n Try.prog 53 #[.pointer (some ⟨B, 0, none⟩)] encW (KpT (ITb B v)) (fun ys => ys = El l) (fun pre => ∃ k, k ≤ l.length ∧ pre = (El l).take k) l.length w := by
  intro l0 J Jx W hW hJ _ hY h0
  exact back_in n hn l0 B v l hl J Jx W hJ hY (h.below hW (Nat.le_refl _)) h0
end Go.Proofs.Ytbfmgdkiigkioaa

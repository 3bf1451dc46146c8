/- The walk of Plan. -/
import Derived.Test.YtbfmgdkiigkioaaCall
namespace Go.Proofs.Ytbfmgdkiigkioaa
open Go.RowKit Go.LawEnd

/-- a row of ints that is there -/
def RowI (w : World) (v : Value) (fs : List Int) : Prop :=
  (fs = [] ∧ v = .slice none 0 0) ∨ ∃ kb ko c, v = .slice (some ⟨kb, ko, none⟩) fs.length c ∧ kb < w.heap.size ∧ ∀ j (hj : j < fs.length), w.cell? ⟨kb, ko + j, none⟩ = some (.int .i64 fs[j])
theorem RowI.below {w w' : World} {v : Value} {fs : List Int} (h : RowI w v fs) (hb : Below w.heap.size w w') : RowI w' v fs := by
  rcases h with h | ⟨kb, ko, c, e, hl, hc⟩
  · exact .inl h
  · exact .inr ⟨kb, ko, c, e, by have := hb.size; omega, fun j hj => (hb.cell (p := ⟨kb, ko + j, none⟩) hl).trans (hc j hj)⟩
theorem RowI.form {w : World} {v : Value} {fs : List Int} (h : RowI w v fs) : ∃ A c, v = .slice A fs.length c ∧ ∀ j (hj : j < fs.length), ∃ kb ko, A = some ⟨kb, ko, none⟩ ∧ w.cell? ⟨kb, ko + j, none⟩ = some (.int .i64 fs[j]) := by
  rcases h with ⟨rfl, rfl⟩ | ⟨kb, ko, c, rfl, _, hc⟩
  · exact ⟨none, 0, rfl, fun j hj => by simp at hj⟩
  · exact ⟨_, c, rfl, fun j hj => ⟨kb, ko, rfl, hc j hj⟩⟩
theorem infoInt : ∃ i : TypeInfo, Try.prog.info? 3 = some i ∧ i.zero = some (.int .i64 0) ∧ i.size = 1 ∧ i.bytes = 8 := by
  have h : ((Try.prog.info? 3).map fun i => (i.zero, i.size, i.bytes)) = some (some (.int .i64 0), 1, 8) := by kernel_rfl
  cases hi : Try.prog.info? 3 with
  | none => rw [hi] at h; cases h
  | some i =>
    rw [hi] at h
    injection h with h
    injection h with h1 h
    injection h with h2 h3
    exact ⟨i, rfl, h1, h2, h3⟩
theorem app_plan {w0 w : World} {S : Nat → Prop} {L : List Atom} {vP vK : Value} {l fs : List Int} (h : Hv w0 S (winA vP 3 l.length (ints l) :: L) w) (hK : RowI w vK fs) (hb : l.length + fs.length ≤ 100000) :
    ∃ A' c' w', (Builtin.append_ #[50, 50] 50 #[vP, vK]).run Try.prog w = .ok (.slice A' (l ++ fs).length c') w' ∧ Hv w0 S (winA (.slice A' (l ++ fs).length c') 3 (l ++ fs).length (ints (l ++ fs)) :: L) w' := by
  obtain ⟨i0, hi0, hz0, hz1, hz2⟩ := infoInt
  rcases hK with ⟨rfl, rfl⟩ | ⟨kb, ko, c, rfl, hl, hc⟩
  · obtain ⟨A, cp, rfl⟩ := (hv_win h (i := 0) rfl).form
    have hnc : l.length ≤ cp := by
      rcases (hv_win h (i := 0) rfl).2 with ⟨e, hn⟩ | ⟨g, off, cap, cur, e, _, _, hn, _⟩
      · omega
      · injection e with _ _ e; omega
    refine ⟨A, cp, w, ?_, by rw [List.append_nil]; exact h⟩
    rw [List.append_nil]
    cases A <;> simp [Builtin.append_, run_underlying Try.underlying50, sizeOf, typeInfo, hi0, Builtin.lenOf, Builtin.firstCells, hnc, storeCells]
  · obtain ⟨T, hT, hJ⟩ := Hv.use [winA vP 3 l.length (ints l)] L h
    have ho := hT.out
    obtain ⟨v', w', hr, h2, h3, h4⟩ := run_append_win (P := Try.prog) (w := w) 50 50 0 3 i0 (.int .i64 0) 8 Try.underlying50 hi0 hz0 hz1 hz2 rfl vP l.length (ints l) ho.1 ⟨kb, ko, none⟩ fs.length c (ints fs) (by simp [ints]) (fun j u hu => by
      have hj : j < fs.length := by have := (List.getElem?_eq_some_iff.1 hu).1; simpa [ints] using this
      rw [add_off, hc j hj]
      simpa [ints, List.getElem?_eq_getElem hj] using hu) (by intro u hu; obtain ⟨x, _, rfl⟩ := List.mem_map.1 hu; rfl) (by unfold maxLen; omega) (by omega) (Nat.zero_le _)
    have e1 : ints l ++ ints fs = ints (l ++ fs) := by simp [ints]
    have e2 : l.length + fs.length = (l ++ fs).length := by simp
    rw [e1, e2] at h2
    obtain ⟨A', c', rfl⟩ := h2.form
    refine ⟨A', c', w', hr, hJ [winA (.slice A' (l ++ fs).length c') 3 (l ++ fs).length (ints (l ++ fs))] w' ⟨fun b => (Value.slice A' (l ++ fs).length c').ownBlock = some b, Sep.one ⟨h2, fun _ => Iff.rfl⟩, (Ch.refl _ w).grown h3 (fun k hk => .inl ((ho.2 k).2 hk)), fun b hb' => ?_⟩⟩
    rcases h4 with h4 | ⟨H, hH, h4⟩
    · exact .inl ((ho.2 b).2 (by rw [← h4]; exact hb'))
    · rw [h4] at hb'
      injection hb' with hb'
      exact .inr (by omega)
def okFate (f : Int) : Bool := decide (0 ≤ f) && decide (f ≤ 2)
theorem plan1_any (f : Int) (w : World) : Calls Try.prog 47 #[.int .i64 f] w fun e w' => e = .returned (.bool (!okFate f)) ∧ w = w' := by
  unfold okFate
  by_cases h0 : f < 0
  · have d1 : decide (f < 0) = true := decide_eq_true h0
    rw [show decide (0 ≤ f) = false from decide_eq_false (by omega)]
    go_enter Try.func47, Try.ntmps47
    go_wp2
    go_ret
    exact ⟨rfl, rfl⟩
  · have d1 : decide (f < 0) = false := decide_eq_false h0
    rw [show decide (0 ≤ f) = true from decide_eq_true (by omega)]
    by_cases h2 : 2 < f
    · have d2 : decide (2 < f) = true := decide_eq_true h2
      rw [show decide (f ≤ 2) = false from decide_eq_false (by omega)]
      go_enter Try.func47, Try.ntmps47
      go_wp2
      go_ret
      exact ⟨rfl, rfl⟩
    · have d2 : decide (2 < f) = false := decide_eq_false h2
      rw [show decide (f ≤ 2) = true from decide_eq_true (by omega)]
      go_enter Try.func47, Try.ntmps47
      go_wp2
      go_ret
      exact ⟨rfl, rfl⟩
def IdxP (b : Bool) (i : Int) : Prop := if b = true then i = -1 else 0 ≤ i
set_option maxRecDepth 100000 in
set_option maxHeartbeats 3200000 in
theorem indexf_any {vK : Value} (fs : List Int) (w : World) (hK : Hid (RowI w vK fs)) (hb : fs.length ≤ 100000) :
    Calls Try.prog 52 #[vK, .func (.func 47) #[] #[]] w fun e w' => (∃ i : Int, e = .returned (.int .i64 i) ∧ IdxP (fs.all okFate) i) ∧ w = w' := by
  obtain ⟨A, c, rfl, hc⟩ := hK.out.form
  obtain ⟨n, hn⟩ : ∃ n, n = fs.length := ⟨_, rfl⟩
  have HN := Lib.hid hn
  have HC := Lib.hid hc
  rw [← hn] at hb ⊢
  clear hn hc hK
  go_enter Try.func52, Try.ntmps52
  go_wp2_with fail
  go_loopw [8] (fun i wr => ∃ k : Nat, k ≤ n ∧ i = .int .i64 k ∧ wr = w ∧ Hid ((fs.take k).all okFate = true)) (fun i _ => n - (intOf i).toNat)
  case atStart => exact ⟨0, by omega, rfl, rfl, by show _ = _; simp⟩
  case round =>
    obtain ⟨k, hk, rfl, rfl, HT⟩ := hrel
    by_cases hkl : k < n
    · have hk' : k < fs.length := by rw [← HN.out]; exact hkl
      obtain ⟨kb, ko, rfl, c0⟩ := HC.out k hk'
      obtain ⟨f, hf⟩ : ∃ f, f = fs[k] := ⟨_, rfl⟩
      rw [← hf] at c0
      have HF : Hid (fs[k]? = some f) := by show _ = _; rw [hf, List.getElem?_eq_getElem hk']
      clear hf hk'
      go_wp2_with fail
      refine (plan1_any f _).mono ?_
      rintro e w2 ⟨rfl, rfl⟩
      cases hz : okFate f with
      | true =>
        have HT2 : Hid ((fs.take (k + 1)).all okFate = true) := by
          show _ = _
          rw [List.take_add_one, HF.out, List.all_append, HT.out]
          simp [hz]
        clear hz
        go_wp2_with fail
        go_roundw
        case rel => exact ⟨k + 1, by omega, rfl, trivial, HT2⟩
        case measure => simp [intOf]; omega
      | false =>
        have HA : Hid (fs.all okFate = false) := by
          show _ = _
          rw [List.all_eq_false]
          exact ⟨f, List.mem_of_getElem? HF.out, by simp [hz]⟩
        clear hz
        go_wp2_with fail
        go_ret
        exact ⟨⟨(k : Int), rfl, by unfold IdxP; rw [HA.out, if_neg (by simp)]; omega⟩, rfl⟩
    · obtain rfl : k = n := by omega
      have HA : Hid (fs.all okFate = true) := by
        have := HT.out
        rw [HN.out, List.take_length] at this
        exact this
      go_wp2
      go_ret
      exact ⟨⟨-1, rfl, by unfold IdxP; rw [HA.out, if_pos rfl]⟩, rfl⟩
theorem contains_any {vK : Value} (fs : List Int) (w : World) (hK : Hid (RowI w vK fs)) (hb : fs.length ≤ 100000) :
    Calls Try.prog 46 #[vK, .func (.func 47) #[] #[]] w fun e w' => e = .returned (.bool (!fs.all okFate)) ∧ w = w' := by
  go_enter Try.func46, Try.ntmps46
  go_wp2_with fail
  refine (indexf_any fs w hK hb).mono ?_
  rintro e w2 ⟨⟨i, rfl, hi⟩, rfl⟩
  cases hz : fs.all okFate with
  | true =>
    rw [hz] at hi
    unfold IdxP at hi
    rw [if_pos rfl] at hi
    subst hi
    have HZ := Lib.hid hz
    clear hz
    go_wp2_with fail
    go_ret
    exact ⟨by (first | (rw [HZ.out]; done) | (rw [HZ.out]; rfl)), rfl⟩
  | false =>
    rw [hz] at hi
    unfold IdxP at hi
    rw [if_neg (by simp)] at hi
    have d1 : decide (0 ≤ i) = true := decide_eq_true hi
    have HZ := Lib.hid hz
    clear hz
    go_wp2_with fail
    go_ret
    exact ⟨by (first | (rw [HZ.out]; done) | (rw [HZ.out]; rfl)), rfl⟩
def planD (D : Dv) (fs : List Int) : Dv := { D with plan := D.plan ++ fs, np := false }
def planF (D : Dv) (fs : List Int) : Int × Dv := if fs.all okFate = true then (0, planD D fs) else (1, D)
section
variable {T : Nat → Prop} {d : Nat} {D : Dv} {w : World} {R : List Atom}
set_option maxRecDepth 100000 in
set_option maxHeartbeats 3200000 in
theorem plan_any {vK : Value} (fs : List Int) (hK : Hid (RowI w vK fs)) (hb : Hid (D.plan.length + fs.length ≤ 100000)) (h : Hid (Sep (devA d D :: R) w T)) :
    Calls Try.prog 27 #[.pointer (some ⟨d, 0, none⟩), vK] w fun e w' => e = .returned (.int .i64 (planF D fs).1) ∧ Hv w T (devA d (planF D fs).2 :: R) w' := by
  obtain ⟨A, c, rfl, _⟩ := hK.out.form
  go_enter Try.func27, Try.ntmps27
  go_wp2_with fail
  refine (contains_any fs w hK (by have := hb.out; omega)).mono ?_
  rintro e w2 ⟨rfl, rfl⟩
  cases hz : fs.all okFate with
  | false =>
    have HV := Hv.start h.out
    have HF : Hid (planF D fs = (1, D)) := by show _ = _; unfold planF; rw [hz]; rfl
    clear hz
    go_wp2_with fail
    go_ret
    exact ⟨by (first | (rw [HF.out]; done) | (rw [HF.out]; rfl)), by rw [HF.out]; exact HV⟩
  | true =>
    obtain ⟨AF, cF, AO, cO, AP, cP, k0, k1, k2, hv, hpn⟩ := dev_cells (Hv.start h.out)
    obtain ⟨A', c', W2, hE, hH⟩ := app_plan ((hv.front 3 (by simp))) hK.out hb.out
    have HE := Lib.hid hE
    have hH2 : Hv w T (blkA d 62 #[.slice AF D.firm.length cF, .slice AO D.opn.length cO, .slice AP D.plan.length cP] :: winA (.slice A' (D.plan ++ fs).length c') 3 (D.plan ++ fs).length (ints (D.plan ++ fs)) :: blA (.slice AF D.firm.length cF) D.firm :: wrA (.slice AO D.opn.length cO) D.opn :: R) W2 := hH.perm (List.Perm.swap _ _ _)
    have c0 := (hH2.blk (i := 0) rfl).frozen 2
    have c1 : W2.cell? ⟨d, 2, none⟩ = some (.slice AP D.plan.length cP) := by simpa using (hH2.blk (i := 0) rfl).cell 2
    have h3 := hH2.set 2 (.slice A' (D.plan ++ fs).length c')
    have H3 : Hid (Hv w T (devA d (planD D fs) :: R) (W2.setCell ⟨d, 2, none⟩ (.slice A' (D.plan ++ fs).length c'))) := by
      refine dev_close (D := planD D fs) (vF := .slice AF D.firm.length cF) (vO := .slice AO D.opn.length cO) (vP := .slice A' (D.plan ++ fs).length c') ?_ ⟨hpn.1, fun e => by cases e⟩
      exact h3.perm (List.Perm.cons _ (List.perm_middle (l₁ := [blA (.slice AF D.firm.length cF) D.firm, wrA (.slice AO D.opn.length cO) D.opn])).symm)
    have HF : Hid (planF D fs = (0, planD D fs)) := by show _ = _; unfold planF; rw [hz]; rfl
    obtain ⟨p0, hp0⟩ : ∃ p, p = D.plan.length := ⟨_, rfl⟩
    obtain ⟨p1, hp1⟩ : ∃ p, p = (D.plan ++ fs).length := ⟨_, rfl⟩
    rw [← hp0] at k2 c1 HE
    rw [← hp1] at HE H3
    clear hE hH hH2 h3 hz hp0 hp1 hv hpn k0 k1
    go_wp2_with (at_builtin; refine wpList_append_run rfl (.tmp 15) (.tmp 16) _ rfl HE.out ?_)
    go_ret
    exact ⟨by (first | (rw [HF.out]; done) | (rw [HF.out]; rfl)), by rw [HF.out]; exact H3.out⟩
end
end Go.Proofs.Ytbfmgdkiigkioaa

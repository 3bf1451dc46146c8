/- The document's index, whatever is in it: what its calls do. -/
import Derived.Test.YtofeodhekpnpaaaIA
import Derived.Test.YtofeodhekpnpaaaDoes2
namespace Go.Proofs.Ytofeodhekpnpaaa
open Go.RowKit Go.LawEnd

section
variable {w : World} {r slots n : Nat} {l : Pls} {f : Ats} {T : Nat → Prop}
theorem hv_ri {w0 : World} {S : Nat → Prop} {vS vD : Value} {R : List Atom} (h : Hv w0 S (blkA r 70 #[vS, vD, .int .i64 (slots : Int)] :: rowA vS 3 1 l.length (rS l) :: rowA vD 4 1 l.length (rD l) :: R) w) : RI 0 w r l.length slots vS vD (l.map (·.1)) (l.map (·.2)) :=
  ⟨h.blk (i := 0) rfl, h.row (i := 1) rfl, h.row (i := 2) rfl, Nat.zero_le _⟩
theorem ref_open {w0 : World} {S : Nat → Prop} {R : List Atom} (h : Hv w0 S (refA r slots l :: R) w) : ∃ vS vD, Hv w0 S (blkA r 70 #[vS, vD, .int .i64 (slots : Int)] :: rowA vS 3 1 l.length (rS l) :: rowA vD 4 1 l.length (rD l) :: R) w := by
  obtain ⟨v, hv⟩ := h.open_
  exact ⟨v.1, v.2, hv⟩
theorem ref_close {w0 : World} {S : Nat → Prop} {R : List Atom} {vS vD : Value} (h : Hv w0 S (blkA r 70 #[vS, vD, .int .i64 (slots : Int)] :: rowA vS 3 1 l.length (rS l) :: rowA vD 4 1 l.length (rD l) :: R) w) : Hv w0 S (refA r slots l :: R) w :=
  Hv.close (f := fun v : Value × Value => [blkA r 70 #[v.1, v.2, .int .i64 (slots : Int)], rowA v.1 3 1 l.length (rS l), rowA v.2 4 1 l.length (rD l)]) (vS, vD) h
theorem rright_a (i : Int) (h : Hid (Sep [refA r slots l] w T)) : Calls Try.prog 37 #[.pointer (some ⟨r, 0, none⟩), .int .i64 i] w fun e w' => e = .returned (.bool (decide (0 ≤ i) && decide (i < (l.length : Int)))) ∧ w = w' := by
  obtain ⟨vS, vD, hv⟩ := ref_open (Hv.start h.out)
  have HR := Lib.hid (hv_ri hv)
  by_cases hi : i < 0 ∨ (l.length : Int) ≤ i
  · rw [show (decide (0 ≤ i) && decide (i < (l.length : Int))) = false by
      rw [Bool.and_eq_false_iff, decide_eq_false_iff_not, decide_eq_false_iff_not]; omega]
    exact right_out i HR hi
  · obtain ⟨j, rfl⟩ : ∃ j : Nat, i = j := ⟨i.toNat, by omega⟩
    rw [show (decide (0 ≤ (j : Int)) && decide ((j : Int) < (l.length : Int))) = true by
      rw [Bool.and_eq_true, decide_eq_true_eq, decide_eq_true_eq]; omega]
    exact right_in j HR (by omega)
set_option maxHeartbeats 800000 in
theorem ref_at_some {vS vD : Value} {k : Nat} {sl : List Int} {dl : List Bool} (s : Int) (i : Nat) (h : Hid (RI 0 w r k slots vS vD sl dl)) (hk : k ≤ 4096) (h0 : 0 ≤ s) (hi : Hid (sl[i]? = some s)) (hs : Hid (∀ j : Nat, j < i → ∀ x, sl[j]? = some x → (x == s) = false)) : Calls Try.prog 38 #[.pointer (some ⟨r, 0, none⟩), .int .i64 s] w fun e w' => e = .returned (.int .i64 (i : Int)) ∧ w = w' := by
  obtain ⟨A, c, rfl⟩ := h.out.formS
  have c0 := h.out.head.cell 0
  simp at c0
  have hrd := Rd.of_own h.out.rowS
  have hlen : Hid (sl.length = k) := by
    show _ = _
    have := hrd.1
    simpa [ints] using this
  have HIK : Hid (i < k) := by
    show _ < _
    rw [← hlen.out]
    exact (List.getElem?_eq_some_iff.1 hi.out).1
  have HRD := Lib.hid hrd
  clear hrd
  go_enter Try.func38, Try.ntmps38
  go_wp2
  go_loopw [5] (fun v wr => ∃ j : Nat, j ≤ i ∧ v = .int .i64 j ∧ w = wr) (fun v _ => k - (intOf v).toNat)
  case atStart => exact ⟨0, by omega, rfl, rfl⟩
  case round =>
    obtain ⟨j, hj, rfl, rfl⟩ := hrel
    have hjk : j < k := by have := HIK.out; omega
    obtain ⟨b, off, rfl, hbl, hkl, hcell⟩ := HRD.out.at_ hjk
    obtain ⟨x, hx⟩ : ∃ x, sl[j]'(by have := hlen.out; omega) = x := ⟨_, rfl⟩
    have hcx : w.cell? ⟨b, off + j, none⟩ = some (.int .i64 x) := by rw [hcell, ← hx]; simp [ints]
    have hx2 : sl[j]? = some x := by rw [← hx]; exact List.getElem?_eq_getElem _
    by_cases hji : j = i
    · subst hji
      have e : x = s := by have := hi.out; rw [hx2] at this; injection this
      subst e
      clear hcell hx hkl hx2
      have b1 : decide ((0 : Int) ≤ x) = true := decide_eq_true h0
      have b2 : (x == x) = true := by simp
      go_wp2
      go_ret
      exact ⟨rfl, rfl⟩
    · have hxs : (x == s) = false := hs.out j (by omega) x hx2
      clear hcell hx hkl hx2
      go_wp2
      go_roundw
      case rel => exact ⟨j + 1, by omega, by go_num, by trivial⟩
      case measure => simp [intOf]; omega
theorem rat_a (s : Int) (h : Hid (Sep [refA r slots l] w T)) (hok : Ok slots l f) (hl : l.length ≤ 4096) (h0 : 0 ≤ s) : Calls Try.prog 38 #[.pointer (some ⟨r, 0, none⟩), .int .i64 s] w fun e w' => e = .returned (.int .i64 ((f s).getD (-1))) ∧ w = w' := by
  obtain ⟨vS, vD, hv⟩ := ref_open (Hv.start h.out)
  have HR := Lib.hid (hv_ri hv)
  cases hf : f s with
  | none =>
    refine ref_at_none s HR hl fun x hx => ?_
    obtain ⟨⟨a, d⟩, hp, rfl⟩ := List.mem_map.1 hx
    obtain ⟨i, hi, he⟩ := List.getElem_of_mem hp
    rw [beq_eq_false_iff_ne]
    rintro rfl
    have := (hok.map a (i : Int)).2 ⟨h0, i, rfl, d, by rw [List.getElem?_eq_getElem hi, he]⟩
    rw [hf] at this
    cases this
  | some o =>
    obtain ⟨_, i, rfl, d, hd⟩ := (hok.map s o).1 hf
    refine ref_at_some s i HR hl h0 (by show _ = _; rw [List.getElem?_map, hd]; rfl) fun j hj x hx => ?_
    rw [beq_eq_false_iff_ne]
    rintro rfl
    rw [List.getElem?_map] at hx
    cases hlj : l[j]? with
    | none => rw [hlj] at hx; cases hx
    | some p =>
      rw [hlj] at hx
      obtain ⟨a, d'⟩ := p
      simp only [Option.map_some, Option.some.injEq] at hx
      subst hx
      have := (hok.map a (j : Int)).2 ⟨h0, j, rfl, d', hlj⟩
      rw [hf] at this
      injection this with this
      omega
theorem ints_set (l : List Int) (j : Nat) (x : Int) : (ints l).set j (.int .i64 x) = ints (l.set j x) := by unfold ints; rw [List.map_set]
theorem bools_set (l : List Bool) (j : Nat) (x : Bool) : (bools l).set j (.bool x) = bools (l.set j x) := by unfold bools; rw [List.map_set]
theorem rS_set (l : Pls) (j : Nat) (p : Int × Bool) : (rS l).set j (.int .i64 p.1) = rS (l.set j p) := by unfold rS; rw [ints_set, List.map_set]
theorem rD_set (l : Pls) (j : Nat) (p : Int × Bool) : (rD l).set j (.bool p.2) = rD (l.set j p) := by unfold rD; rw [bools_set, List.map_set]
/-- a place is stored into both rows -/
theorem ref_store {w0 : World} {S : Nat → Prop} {R : List Atom} {gS gD cS cD m : Nat} {j : Nat} {p : Int × Bool} (hm : l.length = m)
    (h : Hv w0 S (blkA r 70 #[.slice (some ⟨gS, 0, none⟩) m cS, .slice (some ⟨gD, 0, none⟩) m cD, .int .i64 (slots : Int)] :: rowA (.slice (some ⟨gS, 0, none⟩) m cS) 3 1 l.length (rS l) :: rowA (.slice (some ⟨gD, 0, none⟩) m cD) 4 1 l.length (rD l) :: R) w) :
    Hv w0 S (refA r slots (l.set j p) :: R) ((w.setCell ⟨gS, j, none⟩ (.int .i64 p.1)).setCell ⟨gD, j, none⟩ (.bool p.2)) := by
  subst hm
  have h1 := (h.perm (List.Perm.swap _ _ _)).rowSet j (.int .i64 p.1)
  have h2 := (h1.perm ((List.Perm.cons _ (List.Perm.swap _ _ _)).trans (List.Perm.swap _ _ _))).rowSet j (.bool p.2)
  rw [rS_set, rD_set] at h2
  have h3 := h2.perm ((List.Perm.cons _ (List.Perm.swap _ _ _)).trans ((List.Perm.swap _ _ _).trans (List.Perm.cons _ (List.Perm.swap _ _ _))))
  have e : (l.set j p).length = l.length := List.length_set
  refine ref_close (vS := .slice (some ⟨gS, 0, none⟩) l.length cS) (vD := .slice (some ⟨gD, 0, none⟩) l.length cD) ?_
  rw [e]
  exact h3
theorem ref_cells {vS vD : Value} (h : Hid (RI 0 w r l.length slots vS vD (l.map (·.1)) (l.map (·.2)))) (j : Nat) (hj : j < l.length) : ∃ gS cS gD cD, vS = .slice (some ⟨gS, 0, none⟩) l.length cS ∧ vD = .slice (some ⟨gD, 0, none⟩) l.length cD ∧
    w.cell? ⟨gS, j, none⟩ = some (.int .i64 l[j].1) ∧ w.frozen? ⟨gS, j, none⟩ = false ∧ w.cell? ⟨gD, j, none⟩ = some (.bool l[j].2) ∧ w.frozen? ⟨gD, j, none⟩ = false := by
  obtain ⟨gS, cS, e1, k1, k2⟩ := h.out.readS j hj (x := l[j].1) (by rw [List.getElem?_map, List.getElem?_eq_getElem hj]; rfl)
  obtain ⟨gD, cD, e2, k3, k4⟩ := h.out.readD j hj (x := l[j].2) (by rw [List.getElem?_map, List.getElem?_eq_getElem hj]; rfl)
  exact ⟨gS, cS, gD, cD, e1, e2, k1, k2, k3, k4⟩

theorem rput_a (i s : Int) (d : Bool) (h : Hid (Sep [refA r slots l] w T)) (hok : Hid (Ok slots l f)) (hl : l.length ≤ 4096) :
    Calls Try.prog 25 #[.pointer (some ⟨r, 0, none⟩), .int .i64 i, .int .i64 s, .bool d] w fun e w' => e = .returned (.tuple #[.int .i64 (putF slots l f i s d).1.1, .bool (putF slots l f i s d).1.2.1, .int .i64 (putF slots l f i s d).1.2.2]) ∧ Hv w T [refA r slots (putF slots l f i s d).2.1] w' := by
  obtain ⟨vS, vD, hv⟩ := ref_open (Hv.start h.out)
  have HR := Lib.hid (hv_ri hv)
  by_cases hi : i < 0 ∨ (l.length : Int) ≤ i
  · unfold putF; rw [if_pos hi]
    refine (ref_put_out i s d HR (.inl hi)).mono ?_
    rintro e w' ⟨rfl, rfl⟩
    exact ⟨rfl, Hv.start h.out⟩
  · by_cases hs : s < 0 ∨ (slots : Int) ≤ s
    · unfold putF; rw [if_neg hi, if_pos hs]
      refine (ref_put_out i s d HR (.inr hs)).mono ?_
      rintro e w' ⟨rfl, rfl⟩
      exact ⟨rfl, Hv.start h.out⟩
    · obtain ⟨j, rfl⟩ : ∃ j : Nat, i = j := ⟨i.toNat, by omega⟩
      have hj : j < l.length := by omega
      have c2 := HR.out.head.cell 2
      simp at c2
      have HAT := Lib.hid (rat_a s h hok.out hl (by omega))
      have s0 : 0 ≤ s := by omega
      have s1 : s < (slots : Int) := by omega
      by_cases ho : (f s).any (· != (j : Int)) = true
      · unfold putF; rw [if_neg hi, if_neg hs, if_pos ho]
        obtain ⟨o, hf, hne⟩ : ∃ o, f s = some o ∧ o ≠ (j : Int) := by
          cases hfs : f s with
          | none => rw [hfs] at ho; cases ho
          | some o => rw [hfs] at ho; exact ⟨o, rfl, by simpa using ho⟩
        have ho0 : 0 ≤ o := by obtain ⟨_, i, rfl, _⟩ := (hok.out.map s o).1 hf; omega
        rw [hf] at HAT
        have HAT2 : Hid (Calls Try.prog 38 #[.pointer (some ⟨r, 0, none⟩), .int .i64 s] w fun e w' => e = .returned (.int .i64 o) ∧ w = w') := HAT.out
        have b1 : decide (0 ≤ o) = true := decide_eq_true ho0
        have b2 : (o == (j : Int)) = false := by rw [beq_eq_false_iff_ne]; exact hne
        clear hv hi hs ho hf HAT
        go_enter Try.func25, Try.ntmps25
        go_wp2_with fail
        refine (right_in j HR hj).mono ?_
        rintro e w' ⟨rfl, rfl⟩
        go_wp2_with fail
        refine HAT2.out.mono ?_
        rintro e w' ⟨rfl, rfl⟩
        go_wp2
        refine bodyPost_ret (results_tmp3 rfl _ _ _) rfl ?_
        exact ⟨rfl, Hv.start h.out⟩
      · unfold putF; rw [if_neg hi, if_neg hs, if_neg ho, pl_at hj]
        obtain ⟨gS, cS, gD, cD, rfl, rfl, kS, fS, kD, fD⟩ := ref_cells HR j hj
        have HV := Lib.hid hv
        obtain ⟨o, HO, hoo⟩ : ∃ o : Int, Hid ((f s).getD (-1) = o) ∧ (o = -1 ∨ o = (j : Int)) := by
          refine ⟨_, rfl, ?_⟩
          cases hfs : f s with
          | none => exact .inl rfl
          | some o =>
            right
            rw [hfs] at ho
            simpa using ho
        rw [HO.out] at HAT
        have c0 := HR.out.head.cell 0
        have c1 := HR.out.head.cell 1
        simp at c0 c1
        obtain ⟨p, hp⟩ : ∃ p, p = l[j] := ⟨_, rfl⟩
        rw [← hp] at kS kD ⊢
        obtain ⟨p0, p1⟩ := p
        simp only [] at kS kD ⊢
        obtain ⟨m, hm⟩ : ∃ m, m = l.length := ⟨_, rfl⟩
        have HMM : Hid (l.length = m) := hm.symm
        have hjm : j < m := by omega
        have HR' := Lib.hid (right_in j HR hj)
        obtain ⟨b, hb⟩ : ∃ b : Bool, b = d := ⟨_, rfl⟩
        rw [← hm] at c0 c1
        have hfD : (w.setCell ⟨gS, j, none⟩ (.int .i64 s)).frozen? ⟨gD, j, none⟩ = false := by rw [World.frozen?_setCell]; exact fD
        have hgSD : gS ≠ gD := by
          have q1 := (hv.row (i := 1) rfl)
          have q2 := (hv.row (i := 2) rfl)
          intro e
          subst e
          rcases q1.2 with ⟨h0, _⟩ | ⟨_, _, _, h0, _, hh1, _⟩
          · cases h0
          · injection h0 with h0; injection h0 with h0; injection h0 with h0
            subst h0
            rcases q2.2 with ⟨h0, _⟩ | ⟨_, _, _, h0, _, hh2, _⟩
            · cases h0
            · injection h0 with h0; injection h0 with h0; injection h0 with h0
              subst h0
              rw [hh1] at hh2
              injection hh2 with hh2
              injection hh2 with _ hh2
              exact absurd hh2 (by decide)
        have hrS : gS ≠ r := fun e => by
          subst e
          have q1 := (hv.row (i := 1) rfl)
          rcases q1.2 with ⟨h0, _⟩ | ⟨_, _, _, h0, _, hh1, _⟩
          · cases h0
          · injection h0 with h0; injection h0 with h0; injection h0 with h0
            subst h0
            have q0 := HR.out.head
            unfold Blk at q0
            rw [q0] at hh1
            injection hh1 with hh1
            injection hh1 with _ hh1
            exact absurd hh1 (by decide)
        have kD2 : (w.setCell ⟨gS, j, none⟩ (.int .i64 s)).cell? ⟨gD, j, none⟩ = some (.bool p1) := (World.cell?_setCell_other _ _ _ _ (fun e => hgSD (by injection e))).trans kD
        have c12 : (w.setCell ⟨gS, j, none⟩ (.int .i64 s)).cell? ⟨r, 1, none⟩ = some (.slice (some ⟨gD, 0, none⟩) m cD) := (World.cell?_setCell_other _ _ _ _ (fun e => hrS (by injection e))).trans c1
        have b1 : (decide (0 ≤ o) = true → (o == (j : Int)) = true) := fun h => by rw [decide_eq_true_eq] at h; rw [beq_iff_eq]; omega
        clear hv hi hs ho hp hm hb hoo hgSD hrS
        go_enter Try.func25, Try.ntmps25
        go_wp2_with fail
        refine HR'.out.mono ?_
        rintro e w' ⟨rfl, rfl⟩
        go_wp2_with fail
        refine HAT.out.mono ?_
        rintro e w' ⟨rfl, rfl⟩
        cases hv1 : decide (0 ≤ o)
        · go_wp2
          refine bodyPost_ret (results_tmp3 rfl _ _ _) rfl ?_
          exact ⟨rfl, ref_store (p := (s, d)) HMM.out (by rw [← HMM.out]; exact HV.out)⟩
        · have b2 := b1 hv1
          go_wp2
          refine bodyPost_ret (results_tmp3 rfl _ _ _) rfl ?_
          exact ⟨rfl, ref_store (p := (s, d)) HMM.out (by rw [← HMM.out]; exact HV.out)⟩
end
end Go.Proofs.Ytofeodhekpnpaaa

/- The document's index, whatever is in it: Drop, Clean, Count. -/
import Derived.Test.YtofeodhekpnpaaaIRef
namespace Go.Proofs.Ytofeodhekpnpaaa
open Go.RowKit Go.LawEnd

section
variable {w : World} {r slots n : Nat} {l : Pls} {f : Ats} {T : Nat → Prop}
/-- the rows' blocks are not one, and not the head's -/
theorem ref_apart {w0 : World} {S : Nat → Prop} {gS gD cS cD m : Nat} (hv : Hv w0 S [blkA r 70 #[.slice (some ⟨gS, 0, none⟩) m cS, .slice (some ⟨gD, 0, none⟩) m cD, .int .i64 (slots : Int)], rowA (.slice (some ⟨gS, 0, none⟩) m cS) 3 1 l.length (rS l), rowA (.slice (some ⟨gD, 0, none⟩) m cD) 4 1 l.length (rD l)] w) : gS ≠ gD ∧ gS ≠ r := by
  have q0 := hv.blk (i := 0) rfl
  have q1 := hv.row (i := 1) rfl
  have q2 := hv.row (i := 2) rfl
  unfold Blk at q0
  rcases q1.2 with ⟨h0, _⟩ | ⟨_, _, _, h0, _, hh1, _⟩
  · cases h0
  · injection h0 with h0; injection h0 with h0; injection h0 with h0
    subst h0
    refine ⟨fun e => ?_, fun e => ?_⟩
    · subst e
      rcases q2.2 with ⟨h0, _⟩ | ⟨_, _, _, h0, _, hh2, _⟩
      · cases h0
      · injection h0 with h0; injection h0 with h0; injection h0 with h0
        subst h0
        rw [hh1] at hh2
        injection hh2 with hh2
        injection hh2 with _ hh2
        exact absurd hh2 (by decide)
    · subst e
      rw [q0] at hh1
      injection hh1 with hh1
      injection hh1 with _ hh1
      exact absurd hh1 (by decide)
theorem rdrop_a (i : Int) (h : Hid (Sep [refA r slots l] w T)) (hok : Hid (Ok slots l f)) :
    Calls Try.prog 27 #[.pointer (some ⟨r, 0, none⟩), .int .i64 i] w fun e w' => e = .returned (.tuple #[.int .i64 (dropF l f i).1.1, .bool (dropF l f i).1.2.1, .int .i64 (dropF l f i).1.2.2]) ∧ Hv w T [refA r slots (dropF l f i).2.1] w' := by
  obtain ⟨vS, vD, hv⟩ := ref_open (Hv.start h.out)
  have HR := Lib.hid (hv_ri hv)
  by_cases hi : i < 0 ∨ (l.length : Int) ≤ i
  · unfold dropF; rw [if_pos hi]
    refine (ref_drop_out i HR hi).mono ?_
    rintro e w' ⟨rfl, rfl⟩
    exact ⟨rfl, Hv.start h.out⟩
  · obtain ⟨j, rfl⟩ : ∃ j : Nat, i = j := ⟨i.toNat, by omega⟩
    have hj : j < l.length := by omega
    unfold dropF; rw [if_neg hi, pl_at hj]
    by_cases hp1 : l[j] = (-1, false)
    · rw [if_pos hp1]
      refine (ref_drop_none j (-1) HR hj (by rw [List.getElem?_map, List.getElem?_eq_getElem hj, hp1]; rfl) (by decide)).mono ?_
      rintro e w' ⟨rfl, rfl⟩
      exact ⟨rfl, Hv.start h.out⟩
    · rw [if_neg hp1]
      have hfit : 0 ≤ l[j].1 := by
        rcases hok.out.fit l[j] (List.getElem_mem hj) with e | ⟨a, _⟩
        · exact absurd e hp1
        · exact a
      obtain ⟨gS, cS, gD, cD, rfl, rfl, kS, fS, kD, fD⟩ := ref_cells HR j hj
      have HV := Lib.hid hv
      have c0 := HR.out.head.cell 0
      have c1 := HR.out.head.cell 1
      simp at c0 c1
      obtain ⟨p, hp⟩ : ∃ p, p = l[j] := ⟨_, rfl⟩
      rw [← hp] at kS kD hfit ⊢
      obtain ⟨p0, p1⟩ := p
      simp only [] at kS kD hfit ⊢
      obtain ⟨m, hm⟩ : ∃ m, m = l.length := ⟨_, rfl⟩
      have HMM : Hid (l.length = m) := hm.symm
      have hjm : j < m := by omega
      have HR' := Lib.hid (right_in j HR hj)
      obtain ⟨hgSD, hrS⟩ := ref_apart hv
      rw [← hm] at c0 c1
      have hfD : (w.setCell ⟨gS, j, none⟩ (.int .i64 (-1))).frozen? ⟨gD, j, none⟩ = false := by rw [World.frozen?_setCell]; exact fD
      have kD2 : (w.setCell ⟨gS, j, none⟩ (.int .i64 (-1))).cell? ⟨gD, j, none⟩ = some (.bool p1) := (World.cell?_setCell_other _ _ _ _ (fun e => hgSD (by injection e))).trans kD
      have c12 : (w.setCell ⟨gS, j, none⟩ (.int .i64 (-1))).cell? ⟨r, 1, none⟩ = some (.slice (some ⟨gD, 0, none⟩) m cD) := (World.cell?_setCell_other _ _ _ _ (fun e => hrS (by injection e))).trans c1
      have b1 : decide (p0 < 0) = false := decide_eq_false (by omega)
      clear hv hi hp hm hp1 hgSD hrS hfit
      go_enter Try.func27, Try.ntmps27
      go_wp2_with fail
      refine HR'.out.mono ?_
      rintro e w' ⟨rfl, rfl⟩
      go_wp2
      refine bodyPost_ret (results_tmp3 rfl _ _ _) rfl ?_
      exact ⟨rfl, ref_store (p := (-1, false)) HMM.out (by rw [← HMM.out]; exact HV.out)⟩
theorem ref_storeD {w0 : World} {S : Nat → Prop} {R : List Atom} {vS : Value} {gD cD m : Nat} {j : Nat} {b : Bool} (hm : l.length = m) (hj : j < l.length)
    (h : Hv w0 S (blkA r 70 #[vS, .slice (some ⟨gD, 0, none⟩) m cD, .int .i64 (slots : Int)] :: rowA vS 3 1 l.length (rS l) :: rowA (.slice (some ⟨gD, 0, none⟩) m cD) 4 1 l.length (rD l) :: R) w) :
    Hv w0 S (refA r slots (l.set j (l[j].1, b)) :: R) (w.setCell ⟨gD, j, none⟩ (.bool b)) := by
  subst hm
  have h2 := (h.perm ((List.Perm.cons _ (List.Perm.swap _ _ _)).trans (List.Perm.swap _ _ _))).rowSet j (.bool b)
  have e1 := rD_set l j (l[j].1, b)
  simp only [] at e1
  rw [e1] at h2
  have e2 : rS l = rS (l.set j (l[j].1, b)) := by
    unfold rS
    rw [List.map_set]
    simp only []
    rw [show l[j].1 = (l.map (·.1))[j]'(by simpa using hj) by simp, List.set_getElem_self]
  have h3 := h2.perm ((List.Perm.swap _ _ _).trans (List.Perm.cons _ (List.Perm.swap _ _ _)))
  have e : (l.set j (l[j].1, b)).length = l.length := List.length_set
  refine ref_close (vS := vS) (vD := .slice (some ⟨gD, 0, none⟩) l.length cD) ?_
  rw [e, ← e2]
  exact h3
theorem rclean_a (i : Int) (h : Hid (Sep [refA r slots l] w T)) (hok : Hid (Ok slots l f)) :
    Calls Try.prog 28 #[.pointer (some ⟨r, 0, none⟩), .int .i64 i] w fun e w' => e = .returned (.int .i64 (cleanF l i).1) ∧ Hv w T [refA r slots (cleanF l i).2] w' := by
  obtain ⟨vS, vD, hv⟩ := ref_open (Hv.start h.out)
  have HR := Lib.hid (hv_ri hv)
  by_cases hi : i < 0 ∨ (l.length : Int) ≤ i
  · unfold cleanF; rw [if_pos hi]
    refine (ref_clean_out i HR hi).mono ?_
    rintro e w' ⟨rfl, rfl⟩
    exact ⟨rfl, Hv.start h.out⟩
  · obtain ⟨j, rfl⟩ : ∃ j : Nat, i = j := ⟨i.toNat, by omega⟩
    have hj : j < l.length := by omega
    unfold cleanF; rw [if_neg hi, pl_at hj]
    by_cases hp1 : l[j] = (-1, false)
    · rw [if_pos hp1]
      refine (ref_clean_none j (-1) HR hj (by rw [List.getElem?_map, List.getElem?_eq_getElem hj, hp1]; rfl) (by decide)).mono ?_
      rintro e w' ⟨rfl, rfl⟩
      exact ⟨rfl, Hv.start h.out⟩
    · rw [if_neg hp1]
      have hfit : 0 ≤ l[j].1 := by
        rcases hok.out.fit l[j] (List.getElem_mem hj) with e | ⟨a, _⟩
        · exact absurd e hp1
        · exact a
      obtain ⟨gS, cS, gD, cD, rfl, rfl, kS, fS, kD, fD⟩ := ref_cells HR j hj
      have HV := Lib.hid hv
      have c0 := HR.out.head.cell 0
      have c1 := HR.out.head.cell 1
      simp at c0 c1
      obtain ⟨p0, hp⟩ : ∃ p, p = l[j].1 := ⟨_, rfl⟩
      obtain ⟨p1, hp2⟩ : ∃ p, p = l[j].2 := ⟨_, rfl⟩
      rw [← hp] at kS hfit
      rw [← hp2] at kD
      obtain ⟨m, hm⟩ : ∃ m, m = l.length := ⟨_, rfl⟩
      have HMM : Hid (l.length = m) := hm.symm
      have hjm : j < m := by omega
      have HJ := Lib.hid hj
      have HR' := Lib.hid (right_in j HR hj)
      rw [← hm] at c0 c1
      have b1 : decide (p0 < 0) = false := decide_eq_false (by omega)
      clear hv hi hp hp2 hm hp1 hfit
      go_enter Try.func28, Try.ntmps28
      go_wp2_with fail
      refine HR'.out.mono ?_
      rintro e w' ⟨rfl, rfl⟩
      go_wp2
      go_ret
      refine ⟨rfl, ?_⟩
      exact ref_storeD (b := false) HMM.out HJ.out (by rw [← HMM.out]; exact HV.out)

def inB (p : Int × Bool) : Bool := decide (0 ≤ p.1)
def cn (q : Int × Bool → Bool) (l : Pls) (k : Nat) : Int := (((l.take k).filter q).length : Int)
theorem cn_succ (q : Int × Bool → Bool) (l : Pls) (k : Nat) (h : k < l.length) : cn q l (k + 1) = cn q l k + if q l[k] = true then 1 else 0 := by
  unfold cn
  rw [List.take_succ_eq_append_getElem h, List.filter_append, List.length_append]
  by_cases hq : q l[k] = true
  · rw [if_pos hq]; simp [hq]
  · rw [if_neg hq]; simp [hq]
theorem cn_range (q : Int × Bool → Bool) (l : Pls) (k : Nat) : 0 ≤ cn q l k ∧ cn q l k ≤ l.length := by
  unfold cn
  have := List.length_filter_le q (l.take k)
  have := List.length_take_le k l
  have := List.length_take_le' k l
  omega
set_option maxHeartbeats 1600000 in
theorem rcount_a (h : Hid (Sep [refA r slots l] w T)) (hl : l.length ≤ 4096) :
    Calls Try.prog 36 #[.pointer (some ⟨r, 0, none⟩)] w fun e w' => e = .returned (.tuple #[.int .i64 (cn inB l l.length), .int .i64 (cn dirt_ l l.length)]) ∧ w = w' := by
  obtain ⟨vS, vD, hv⟩ := ref_open (Hv.start h.out)
  have HR := Lib.hid (hv_ri hv)
  obtain ⟨AS, cS, rfl⟩ := HR.out.formS
  obtain ⟨AD, cD, rfl⟩ := HR.out.formD
  have c0 := HR.out.head.cell 0
  have c1 := HR.out.head.cell 1
  simp at c0 c1
  clear hv
  go_enter Try.func36, Try.ntmps36
  go_wp2
  go_loopw [4, 5, 6] (fun a d v wr => ∃ j : Nat, j ≤ l.length ∧ v = .int .i64 j ∧ a = .int .i64 (cn inB l j) ∧ d = .int .i64 (cn dirt_ l j) ∧ w = wr) (fun _ _ v _ => l.length - (intOf v).toNat)
  case atStart => exact ⟨0, by omega, rfl, rfl, rfl, rfl⟩
  case round =>
    obtain ⟨j, hj, rfl, rfl, rfl, rfl⟩ := hrel
    by_cases hjk : j < l.length
    · obtain ⟨gS, c2, gD, c3, e1, e2, kS, _, kD, _⟩ := ref_cells HR j hjk
      injection e1 with e1 _ _
      injection e2 with e2 _ _
      subst e1 e2
      have h1 := cn_succ inB l j hjk
      have h2 := cn_succ dirt_ l j hjk
      have r1 := cn_range inB l j
      have r2 := cn_range dirt_ l j
      obtain ⟨a, ha⟩ : ∃ a, a = cn inB l j := ⟨_, rfl⟩
      obtain ⟨b, hb⟩ : ∃ b, b = cn dirt_ l j := ⟨_, rfl⟩
      rw [← ha] at h1 r1 ⊢
      rw [← hb] at h2 r2 ⊢
      obtain ⟨p, hp⟩ : ∃ p, p = l[j] := ⟨_, rfl⟩
      rw [← hp] at kS kD h1 h2
      obtain ⟨p0, p1⟩ := p
      obtain ⟨q, hq⟩ : ∃ q, q = inB (p0, p1) := ⟨_, rfl⟩
      rw [← hq] at h1
      have hq2 : decide (0 ≤ p0) = q := hq.symm
      have h2' : cn dirt_ l (j + 1) = b + if p1 = true then 1 else 0 := h2
      clear h2
      have h2 := h2'
      clear h2'
      simp only [] at kS kD
      clear ha hb hp hq
      cases q
      all_goals
        cases p1
        all_goals
          have H1 := Lib.hid h1
          have H2 := Lib.hid h2
          clear h1 h2
          go_wp2
          go_roundw
          case rel => exact ⟨j + 1, by omega, by go_num, by rw [H1.out]; first | (simp; done) | go_num, by rw [H2.out]; first | (simp; done) | go_num, by trivial⟩
          case measure => simp [intOf]; omega
    · obtain rfl : j = l.length := by omega
      go_wp2
      refine bodyPost_ret (results_tmp2 rfl _ _ _) rfl ?_
      exact ⟨rfl, rfl⟩
end
end Go.Proofs.Ytofeodhekpnpaaa

/- The document's device in memory; there, fate. -/
import Derived.Test.YtbfmgdkiigkioaaFlush
import Derived.Test.YtbfmgdkiigkioaaWrite
namespace Go.Proofs.Ytbfmgdkiigkioaa
open Go.RowKit Go.LawEnd

noncomputable abbrev rwA (v : Value) (l : List Wr) : Atom := rowA v 74 65 l.length (wrs l)
noncomputable def refA (d : Nat) (D : Dv) : Atom := packA fun v : Value × Value × Value => [blkA d 52 #[v.1, v.2.1, v.2.2], blA v.1 D.firm, rwA v.2.1 D.opn, plA v.2.2 D.plan]
theorem ref_open {w0 w : World} {S : Nat → Prop} {R : List Atom} {d : Nat} {D : Dv} (h : Hv w0 S (refA d D :: R) w) : ∃ vF vO vP, Hv w0 S (blkA d 52 #[vF, vO, vP] :: blA vF D.firm :: rwA vO D.opn :: plA vP D.plan :: R) w := by
  obtain ⟨v, hv⟩ := h.open_
  exact ⟨v.1, v.2.1, v.2.2, hv⟩
theorem ref_close {w0 w : World} {S : Nat → Prop} {R : List Atom} {d : Nat} {D : Dv} {vF vO vP : Value} (h : Hv w0 S (blkA d 52 #[vF, vO, vP] :: blA vF D.firm :: rwA vO D.opn :: plA vP D.plan :: R) w) : Hv w0 S (refA d D :: R) w :=
  Hv.close (f := fun v : Value × Value × Value => [blkA d 52 #[v.1, v.2.1, v.2.2], blA v.1 D.firm, rwA v.2.1 D.opn, plA v.2.2 D.plan]) (vF, vO, vP) h
theorem ref_cells {w0 w : World} {S : Nat → Prop} {R : List Atom} {d : Nat} {D : Dv} (h : Hv w0 S (refA d D :: R) w) : ∃ AF cF AO cO AP cP, w.cell? ⟨d, 0, none⟩ = some (.slice AF D.firm.length cF) ∧ w.cell? ⟨d, 1, none⟩ = some (.slice AO D.opn.length cO) ∧ w.cell? ⟨d, 2, none⟩ = some (.slice AP D.plan.length cP) ∧
    Hv w0 S (blkA d 52 #[.slice AF D.firm.length cF, .slice AO D.opn.length cO, .slice AP D.plan.length cP] :: blA (.slice AF D.firm.length cF) D.firm :: rwA (.slice AO D.opn.length cO) D.opn :: plA (.slice AP D.plan.length cP) D.plan :: R) w := by
  obtain ⟨vF, vO, vP, hv⟩ := ref_open h
  obtain ⟨AF, cF, rfl⟩ := row_form (hv.row (i := 1) rfl)
  obtain ⟨AO, cO, rfl⟩ := row_form (hv.row (i := 2) rfl)
  obtain ⟨AP, cP, rfl⟩ := (hv_win hv (i := 3) rfl).form
  exact ⟨AF, cF, AO, cO, AP, cP, by simpa using (hv.blk (i := 0) rfl).cell 0, by simpa using (hv.blk (i := 0) rfl).cell 1, by simpa using (hv.blk (i := 0) rfl).cell 2, hv⟩
section
variable {T : Nat → Prop} {d : Nat} {D : Dv} {w : World} {R : List Atom}
theorem rthere_any (s : Int) (h : Hid (Sep (refA d D :: R) w T)) : Calls Try.prog 48 #[.pointer (some ⟨d, 0, none⟩), .int .i64 s] w fun e w' => e = .returned (.bool (there D s)) ∧ w = w' := by
  obtain ⟨AF, cF, AO, cO, AP, cP, k0, k1, k2, _⟩ := ref_cells (Hv.start h.out)
  by_cases h0 : 0 ≤ s
  · by_cases h1 : s < (D.firm.length : Int)
    · rw [show there D s = true by unfold there; rw [decide_eq_true h0, decide_eq_true h1]; rfl]
      have d1 : decide (0 ≤ s) = true := decide_eq_true (by omega)
      have d2 : decide (s < (D.firm.length : Int)) = true := decide_eq_true (by omega)
      go_enter Try.func48, Try.ntmps48
      go_wp2
      go_ret
      exact ⟨rfl, rfl⟩
    · rw [show there D s = false by unfold there; rw [decide_eq_false h1, Bool.and_false]]
      have d1 : decide (0 ≤ s) = true := decide_eq_true (by omega)
      have d2 : decide (s < (D.firm.length : Int)) = false := decide_eq_false (by omega)
      go_enter Try.func48, Try.ntmps48
      go_wp2
      go_ret
      exact ⟨rfl, rfl⟩
  · rw [show there D s = false by unfold there; rw [decide_eq_false h0, Bool.false_and]]
    have d1 : decide (0 ≤ s) = false := decide_eq_false (by omega)
    go_enter Try.func48, Try.ntmps48
    go_wp2
    go_ret
    exact ⟨rfl, rfl⟩
theorem rplan_cells {w0 : World} {S : Nat → Prop} {f : Int} {r : List Int} (h : Hv w0 S (refA d D :: R) w) (hp : D.plan = f :: r) : ∃ g off c,
    w.cell? ⟨d, 2, none⟩ = some (.slice (some ⟨g, off, none⟩) (r.length + 1) (c + 1)) ∧ r.length ≤ c ∧ w.cell? ⟨g, off, none⟩ = some (.int .i64 f) ∧ w.frozen? ⟨d, 2, none⟩ = false ∧ g ≠ d ∧
    ∀ offp, (offp = if c = 0 then off else off + 1) → Hv w0 S (refA d (restD D) :: R) (w.setCell ⟨d, 2, none⟩ (.slice (some ⟨g, offp, none⟩) r.length c)) := by
  obtain ⟨vF, vO, vP, hv⟩ := ref_open h
  have hb := hv.blk (i := 0) rfl
  have hw := hv_win hv (i := 3) rfl
  rw [hp] at hw
  obtain ⟨g, off, c, rfl, hc, hg, _, hcell, _⟩ := Win.cons_ (x := .int .i64 f) (xs := ints r) hw
  refine ⟨g, off, c, by simpa using hb.cell 2, by simpa [ints] using hc, hcell, hb.frozen 2, ?_, fun offp ho => ?_⟩
  · intro e
    subst e
    exact hw.ne_blk hb (by decide) rfl
  · have h1 : Hv w0 S (winA (.slice (some ⟨g, off, none⟩) (r.length + 1) (c + 1)) 3 (r.length + 1) (.int .i64 f :: ints r) :: blkA d 52 #[vF, vO, .slice (some ⟨g, off, none⟩) (r.length + 1) (c + 1)] :: blA vF D.firm :: rwA vO D.opn :: R) w := by
      have h2 := hv.front 3 (by simp)
      rw [hp] at h2
      exact h2
    have h3 := (hv_winTail h1 ho).front 1 (by simp)
    have h4 : Hv w0 S (blkA d 52 #[vF, vO, .slice (some ⟨g, offp, none⟩) r.length c] :: winA (.slice (some ⟨g, offp, none⟩) r.length c) 3 r.length (ints r) :: blA vF D.firm :: rwA vO D.opn :: R) (w.setCell ⟨d, 2, none⟩ (.slice (some ⟨g, offp, none⟩) r.length c)) := Hv.set h3 2 (.slice (some ⟨g, offp, none⟩) r.length c)
    refine ref_close (D := restD D) (vF := vF) (vO := vO) (vP := .slice (some ⟨g, offp, none⟩) r.length c) ?_
    have e : (restD D).plan = r := by unfold restD; rw [hp]; rfl
    rw [e]
    exact h4.perm (List.Perm.cons _ (List.perm_middle (l₁ := [blA vF D.firm, rwA vO D.opn])).symm)
set_option maxRecDepth 100000 in
set_option maxHeartbeats 3200000 in
theorem rfate_any (h : Hid (Sep (refA d D :: R) w T)) : Calls Try.prog 49 #[.pointer (some ⟨d, 0, none⟩)] w fun e w' => e = .returned (.int .i64 (fateD D)) ∧ Hv w T (refA d (restD D) :: R) w' := by
  by_cases h0 : D.plan = []
  · obtain ⟨AF, cF, AO, cO, AP, cP, k0, k1, k2, _⟩ := ref_cells (Hv.start h.out)
    rw [h0] at k2
    have HV : Hid (Hv w T (refA d (restD D) :: R) w) := by rw [restD_nil h0]; exact Hv.start h.out
    have HF : Hid (fateD D = 0) := by show _ = _; unfold fateD; rw [h0]; rfl
    clear h0
    go_enter Try.func49, Try.ntmps49
    go_wp2
    go_ret
    exact ⟨by (first | (rw [HF.out]; done) | (rw [HF.out]; rfl)), HV.out⟩
  · obtain ⟨f, hf⟩ : ∃ f, f = fateD D := ⟨_, rfl⟩
    obtain ⟨r, hfr⟩ := fate_cons hf.symm h0
    obtain ⟨g, off, c, k0, hc, k1, k2, hgd, hv⟩ := rplan_cells (Hv.start h.out) hfr
    have HV := Lib.hid hv
    have HF : Hid (fateD D = f) := hf.symm
    clear hv hfr hf h0
    have n0 : ((r.length : Int) + 1 == 0) = false := by rw [beq_eq_false_iff_ne]; omega
    go_enter Try.func49, Try.ntmps49
    go_wp2
    all_goals go_ret
    all_goals first
      | (subst h; exact ⟨by (first | (rw [HF.out]; done) | (rw [HF.out]; rfl)), HV.out _ rfl⟩)
      | exact ⟨by (first | (rw [HF.out]; done) | (rw [HF.out]; rfl)), HV.out _ (if_neg h).symm⟩
      | fail
end
end Go.Proofs.Ytbfmgdkiigkioaa

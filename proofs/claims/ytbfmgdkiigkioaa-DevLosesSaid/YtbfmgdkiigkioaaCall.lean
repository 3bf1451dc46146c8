/- The walk of call: a fate is taken, and what is to be done is done. -/
import Derived.Test.YtbfmgdkiigkioaaNew
import Derived.BigRegion
namespace Go.Proofs.Ytbfmgdkiigkioaa
open Go.RowKit Go.LawEnd

/-- the next fate -/
def fateD (D : Dv) : Int := D.plan.headD 0
def restD (D : Dv) : Dv := { D with plan := D.plan.tail }
theorem restD_nil {D : Dv} (h : D.plan = []) : restD D = D := by
  cases D
  simp only at h
  subst h
  rfl
theorem hv_winTail {w0 w : World} {S : Nat → Prop} {L : List Atom} {g off n cap offp : Nat} {e : TypeId} {x : Value} {xs : List Value} (h : Hv w0 S (winA (.slice (some ⟨g, off, none⟩) (n + 1) (cap + 1)) e (n + 1) (x :: xs) :: L) w)
    (ho : offp = if cap = 0 then off else off + 1) : Hv w0 S (winA (.slice (some ⟨g, offp, none⟩) n cap) e n xs :: L) w := by
  obtain ⟨S', ⟨S1, S2, ⟨h1, hS⟩, h2, hd, hu⟩, hf⟩ := h
  refine ⟨S', ⟨S1, S2, ⟨?_, fun b => ?_⟩, h2, hd, hu⟩, hf⟩
  · obtain ⟨g', off', cap', e', hnc, _, _, _, hw⟩ := h1.cons_
    injection e' with e1 e2 e3
    injection e1 with e1
    injection e1 with e4 e5
    subst e4
    subst e5
    have : cap = cap' := by omega
    subst this
    by_cases h0 : cap = 0
    · rw [if_pos h0] at ho
      subst ho
      subst h0
      have hn : n = 0 := by omega
      subst hn
      refine ⟨hw.1, .inr ?_⟩
      rcases hw.2 with ⟨e, _⟩ | ⟨g', off', cap', cur, e, hB, hg, a1, a2, a3, a4⟩
      · cases e
      · injection e with e1 _ e3
        injection e1 with e1
        injection e1 with e4 e5
        subst e4
        subst e5
        subst e3
        refine ⟨_, _, 0, cur, rfl, hB, hg, a1, by omega, by omega, fun j hj => ?_⟩
        have := hw.1
        omega
    · rw [if_neg h0] at ho
      subst ho
      exact hw
  · rw [hS b]; simp [Value.ownBlock]
section
variable {R R' : List Atom} {T : Nat → Prop} {d gf : Nat} {D : Dv} {w : World} {cap : Array Value} {E : Int}
/-- what the head and the plan's row give where a fate is planned -/
theorem plan_cells {w0 : World} {S : Nat → Prop} {f : Int} {r : List Int} (h : Hv w0 S (devA d D :: R) w) (hp : D.plan = f :: r) : ∃ g off c,
    w.cell? ⟨d, 2, none⟩ = some (.slice (some ⟨g, off, none⟩) (r.length + 1) (c + 1)) ∧ r.length ≤ c ∧ w.cell? ⟨g, off, none⟩ = some (.int .i64 f) ∧ w.frozen? ⟨d, 2, none⟩ = false ∧ g ≠ d ∧
    ∀ offp, (offp = if c = 0 then off else off + 1) → Hv w0 S (devA d (restD D) :: R) (w.setCell ⟨d, 2, none⟩ (.slice (some ⟨g, offp, none⟩) r.length c)).drew := by
  obtain ⟨vF, vO, vP, hv, hpn⟩ := dev_open h
  have hb := hv.blk (i := 0) rfl
  have hw := hv_win hv (i := 3) rfl
  rw [hp] at hw
  obtain ⟨g, off, c, rfl, hc, hg, _, hcell, _⟩ := Win.cons_ (x := .int .i64 f) (xs := ints r) hw
  refine ⟨g, off, c, by simpa using hb.cell 2, by simpa [ints] using hc, hcell, hb.frozen 2, ?_, fun offp ho => ?_⟩
  · intro e
    subst e
    exact hw.ne_blk hb (by decide) rfl
  · have h1 : Hv w0 S (winA (.slice (some ⟨g, off, none⟩) (r.length + 1) (c + 1)) 3 (r.length + 1) (.int .i64 f :: ints r) :: blkA d 62 #[vF, vO, .slice (some ⟨g, off, none⟩) (r.length + 1) (c + 1)] :: blA vF D.firm :: wrA vO D.opn :: R) w := by
      have h2 := hv.front 3 (by simp)
      rw [hp] at h2
      exact h2
    have h3 := (hv_winTail h1 ho).front 1 (by simp)
    have h4 : Hv w0 S (blkA d 62 #[vF, vO, .slice (some ⟨g, offp, none⟩) r.length c] :: winA (.slice (some ⟨g, offp, none⟩) r.length c) 3 r.length (ints r) :: blA vF D.firm :: wrA vO D.opn :: R) (w.setCell ⟨d, 2, none⟩ (.slice (some ⟨g, offp, none⟩) r.length c)).drew := (Hv.set h3 2 (.slice (some ⟨g, offp, none⟩) r.length c)).drew
    refine dev_close (D := restD D) (vF := vF) (vO := vO) (vP := .slice (some ⟨g, offp, none⟩) r.length c) ?_ ⟨hpn.1, fun e => by have := hpn.2 e; cases this⟩
    have e : (restD D).plan = r := by unfold restD; rw [hp]; rfl
    rw [e]
    exact h4.perm (List.Perm.cons _ (List.perm_middle (l₁ := [blA vF D.firm, wrA vO D.opn])).symm)
theorem fate_cons {f : Int} (h : fateD D = f) (h0 : D.plan ≠ []) : ∃ r, D.plan = f :: r := by
  unfold fateD at h
  cases hq : D.plan with
  | nil => exact absurd hq h0
  | cons f' r => rw [hq] at h; exact ⟨r, by rw [← h]; rfl⟩
theorem plan_nil (h : Hid (Sep (devA d D :: R) w T)) (h0 : D.plan = []) : ∃ A c, w.cell? ⟨d, 2, none⟩ = some (.slice A 0 c) := by
  obtain ⟨AF, cF, AO, cO, AP, cP, k0, k1, k2, _⟩ := dev_cells (Hv.start h.out)
  rw [h0] at k2
  exact ⟨AP, cP, k2⟩
theorem fate_go (hp : Hid (fateD D ≠ 0)) : D.plan ≠ [] := fun e => hp.out (by unfold fateD; rw [e]; rfl)
set_option maxRecDepth 100000 in
set_option maxHeartbeats 3200000 in
theorem call_fail (hp : Hid (fateD D = 1)) (h : Hid (Sep (devA d D :: R) w T)) :
    Calls Try.prog 30 #[.pointer (some ⟨d, 0, none⟩), .int .i64 E, .func (.func gf) #[] cap] w fun e w' => e = .returned (.int .i64 E) ∧ Hv w T (devA d (restD D) :: R) w' := by
  obtain ⟨r, hfr⟩ := fate_cons hp.out (fate_go (show _ ≠ _ by rw [hp.out]; decide))
  obtain ⟨g, off, c, k0, hc, k1, k2, hgd, hv⟩ := plan_cells (Hv.start h.out) hfr
  have HV := Lib.hid hv
  clear hv hfr
  go_enter Try.func30, Try.ntmps30
  go_wp2_with fail
  go_region
  all_goals go_wp2_with fail
  all_goals go_ret
  all_goals first
    | (subst h; exact ⟨rfl, HV.out _ rfl⟩)
    | exact ⟨rfl, HV.out _ (if_neg h).symm⟩
    | fail
set_option maxRecDepth 100000 in
set_option maxHeartbeats 3200000 in
theorem call_drop (hp : Hid (fateD D ≠ 1 ∧ fateD D ≠ 0)) (h : Hid (Sep (devA d D :: R) w T)) :
    Calls Try.prog 30 #[.pointer (some ⟨d, 0, none⟩), .int .i64 E, .func (.func gf) #[] cap] w fun e w' => e = .returned (.int .i64 0) ∧ Hv w T (devA d (restD D) :: R) w' := by
  obtain ⟨f, hf⟩ : ∃ f, f = fateD D := ⟨_, rfl⟩
  obtain ⟨r, hfr⟩ := fate_cons hf.symm (fate_go hp.out.2)
  obtain ⟨g, off, c, k0, hc, k1, k2, hgd, hv⟩ := plan_cells (Hv.start h.out) hfr
  have HV := Lib.hid hv
  have b0 : (f == 0) = false := by rw [beq_eq_false_iff_ne, hf]; exact hp.out.2
  have b1 : (f == 1) = false := by rw [beq_eq_false_iff_ne, hf]; exact hp.out.1
  clear hv hfr hf
  go_enter Try.func30, Try.ntmps30
  go_wp2_with fail
  go_region
  all_goals go_wp2_with fail
  all_goals go_ret
  all_goals first
    | (subst h; exact ⟨rfl, HV.out _ rfl⟩)
    | exact ⟨rfl, HV.out _ (if_neg h).symm⟩
    | fail
set_option maxRecDepth 100000 in
set_option maxHeartbeats 3200000 in
theorem call_read {D2 : Dv} (hp : Hid (fateD D = 0)) (h : Hid (Sep (devA d D :: R) w T))
    (hdo : Hid (∀ W, Hv w T (devA d (restD D) :: R) W → Calls Try.prog 42 cap W fun e W' => (∃ v, e = .returned v) ∧ Hv w T (devA d D2 :: R') W')) :
    Calls Try.prog 30 #[.pointer (some ⟨d, 0, none⟩), .int .i64 E, .func (.func 42) #[] cap] w fun e w' => e = .returned (.int .i64 0) ∧ Hv w T (devA d D2 :: R') w' := by
  by_cases h0 : D.plan = []
  · obtain ⟨A, c, k0⟩ := plan_nil h h0
    have HV : Hid (Hv w T (devA d (restD D) :: R) w) := by rw [restD_nil h0]; exact Hv.start h.out
    clear h0
    go_enter Try.func30, Try.ntmps30
    go_upto_region 8 with (fail)
    go_wp2_with (refine (hdo.out _ HV.out).mono ?_; rintro e w2 ⟨⟨v, rfl⟩, h2⟩; have HR := Lib.hid h2; clear h2)
    go_ret
    exact ⟨rfl, HR.out⟩
  · obtain ⟨r, hfr⟩ := fate_cons hp.out h0
    obtain ⟨g, off, c, k0, hc, k1, k2, hgd, hv⟩ := plan_cells (Hv.start h.out) hfr
    have HV := Lib.hid hv
    clear hv hfr h0
    go_enter Try.func30, Try.ntmps30
    go_wp2_with fail
    go_region
    all_goals go_upto_region 8 with (fail)
    all_goals go_wp2_with (first
      | (subst h; refine (hdo.out _ (HV.out _ rfl)).mono ?_; rintro e w2 ⟨⟨v, rfl⟩, h2⟩; have HR := Lib.hid h2; clear h2)
      | (refine (hdo.out _ (HV.out _ (if_neg h).symm)).mono ?_; rintro e w2 ⟨⟨v, rfl⟩, h2⟩; have HR := Lib.hid h2; clear h2)
      | fail)
    all_goals go_ret
    all_goals exact ⟨rfl, HR.out⟩
set_option maxRecDepth 100000 in
set_option maxHeartbeats 3200000 in
theorem call_write {D2 : Dv} (hp : Hid (fateD D = 0)) (h : Hid (Sep (devA d D :: R) w T))
    (hdo : Hid (∀ W, Hv w T (devA d (restD D) :: R) W → Calls Try.prog 31 cap W fun e W' => (∃ v, e = .returned v) ∧ Hv w T (devA d D2 :: R') W')) :
    Calls Try.prog 30 #[.pointer (some ⟨d, 0, none⟩), .int .i64 E, .func (.func 31) #[] cap] w fun e w' => e = .returned (.int .i64 0) ∧ Hv w T (devA d D2 :: R') w' := by
  by_cases h0 : D.plan = []
  · obtain ⟨A, c, k0⟩ := plan_nil h h0
    have HV : Hid (Hv w T (devA d (restD D) :: R) w) := by rw [restD_nil h0]; exact Hv.start h.out
    clear h0
    go_enter Try.func30, Try.ntmps30
    go_upto_region 8 with (fail)
    go_wp2_with (refine (hdo.out _ HV.out).mono ?_; rintro e w2 ⟨⟨v, rfl⟩, h2⟩; have HR := Lib.hid h2; clear h2)
    go_ret
    exact ⟨rfl, HR.out⟩
  · obtain ⟨r, hfr⟩ := fate_cons hp.out h0
    obtain ⟨g, off, c, k0, hc, k1, k2, hgd, hv⟩ := plan_cells (Hv.start h.out) hfr
    have HV := Lib.hid hv
    clear hv hfr h0
    go_enter Try.func30, Try.ntmps30
    go_wp2_with fail
    go_region
    all_goals go_upto_region 8 with (fail)
    all_goals go_wp2_with (first
      | (subst h; refine (hdo.out _ (HV.out _ rfl)).mono ?_; rintro e w2 ⟨⟨v, rfl⟩, h2⟩; have HR := Lib.hid h2; clear h2)
      | (refine (hdo.out _ (HV.out _ (if_neg h).symm)).mono ?_; rintro e w2 ⟨⟨v, rfl⟩, h2⟩; have HR := Lib.hid h2; clear h2)
      | fail)
    all_goals go_ret
    all_goals exact ⟨rfl, HR.out⟩
set_option maxRecDepth 100000 in
set_option maxHeartbeats 3200000 in
theorem call_flush {D2 : Dv} (hp : Hid (fateD D = 0)) (h : Hid (Sep (devA d D :: R) w T))
    (hdo : Hid (∀ W, Hv w T (devA d (restD D) :: R) W → Calls Try.prog 32 cap W fun e W' => (∃ v, e = .returned v) ∧ Hv w T (devA d D2 :: R') W')) :
    Calls Try.prog 30 #[.pointer (some ⟨d, 0, none⟩), .int .i64 E, .func (.func 32) #[] cap] w fun e w' => e = .returned (.int .i64 0) ∧ Hv w T (devA d D2 :: R') w' := by
  by_cases h0 : D.plan = []
  · obtain ⟨A, c, k0⟩ := plan_nil h h0
    have HV : Hid (Hv w T (devA d (restD D) :: R) w) := by rw [restD_nil h0]; exact Hv.start h.out
    clear h0
    go_enter Try.func30, Try.ntmps30
    go_upto_region 8 with (fail)
    go_wp2_with (refine (hdo.out _ HV.out).mono ?_; rintro e w2 ⟨⟨v, rfl⟩, h2⟩; have HR := Lib.hid h2; clear h2)
    go_ret
    exact ⟨rfl, HR.out⟩
  · obtain ⟨r, hfr⟩ := fate_cons hp.out h0
    obtain ⟨g, off, c, k0, hc, k1, k2, hgd, hv⟩ := plan_cells (Hv.start h.out) hfr
    have HV := Lib.hid hv
    clear hv hfr h0
    go_enter Try.func30, Try.ntmps30
    go_wp2_with fail
    go_region
    all_goals go_upto_region 8 with (fail)
    all_goals go_wp2_with (first
      | (subst h; refine (hdo.out _ (HV.out _ rfl)).mono ?_; rintro e w2 ⟨⟨v, rfl⟩, h2⟩; have HR := Lib.hid h2; clear h2)
      | (refine (hdo.out _ (HV.out _ (if_neg h).symm)).mono ?_; rintro e w2 ⟨⟨v, rfl⟩, h2⟩; have HR := Lib.hid h2; clear h2)
      | fail)
    all_goals go_ret
    all_goals exact ⟨rfl, HR.out⟩
end
end Go.Proofs.Ytbfmgdkiigkioaa

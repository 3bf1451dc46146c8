/- The walk of Same, where nothing is planned. -/
import Derived.Test.YtbfmgdkiigkioaaEqual
namespace Go.Proofs.Ytbfmgdkiigkioaa
open Go.RowKit Go.LawEnd

theorem eq_int (A1 A2 : Option Addr) (c1 c2 : Nat) (w : World) : Calls Try.prog 36 #[.slice A1 0 c1, .slice A2 0 c2] w fun e w' => e = .returned (.bool true) ∧ w = w' := by
  go_enter Try.func36, Try.ntmps36
  go_wp2_with fail
  go_loopw [13] (fun i wr => i = .int .i64 0 ∧ wr = w) (fun _ _ => 0)
  case atStart => exact ⟨rfl, rfl⟩
  case round =>
    obtain ⟨rfl, rfl⟩ := hrel
    go_wp2
    go_ret
    exact ⟨rfl, rfl⟩
/-- all bytes may be -/
def OkB (D : Dv) : Prop := (∀ x ∈ D.firm, 0 ≤ x ∧ x < 256) ∧ ∀ x ∈ D.opn, 0 ≤ x.2 ∧ x.2 < 256
section
variable {T : Nat → Prop} {x y : Nat} {D E : Dv} {w : World}

set_option maxRecDepth 100000 in
set_option maxHeartbeats 6400000 in
theorem same_any (hD : Hid (OkB D)) (hE : Hid (OkB E)) (lD : Hid (D.firm.length ≤ 100000 ∧ D.opn.length ≤ 100000)) (hpD : Hid (D.plan = [])) (hpE : Hid (E.plan = [])) (h : Hid (Sep [devA x D, devA y E] w T)) :
    Calls Try.prog 19 #[.pointer (some ⟨x, 0, none⟩), .pointer (some ⟨y, 0, none⟩)] w fun e w' => e = .returned (.bool (decide (D.firm = E.firm) && decide (D.opn = E.opn))) ∧ Below w.heap.size w w' := by
  obtain ⟨AF, cF, AO, cO, AP, cP, k0, k1, k2, hv, _⟩ := dev_cells (Hv.start h.out)
  obtain ⟨BF, dF, BO, dO, BP, dP, j0, j1, j2, hu, _⟩ := dev_cells ((Hv.start h.out).pick [1, 0])
  have hx := (hv.blk (i := 0) rfl).lt
  have hy := (hu.blk (i := 0) rfl).lt
  have HA1 := Lib.hid (hv.row (i := 1) rfl)
  have HA2 := Lib.hid (hv.row (i := 2) rfl)
  have HB1 := Lib.hid (hu.row (i := 1) rfl)
  have HB2 := Lib.hid (hu.row (i := 2) rfl)
  rw [hpD.out] at k2
  rw [hpE.out] at j2
  have q0 : ∀ q : ExtB w.heap.size w, q.w.cell? ⟨x, 0, none⟩ = some (.slice AF D.firm.length cF) := fun q => (q.below.cell (p := ⟨x, 0, none⟩) hx).trans k0
  have q1 : ∀ q : ExtB w.heap.size w, q.w.cell? ⟨x, 1, none⟩ = some (.slice AO D.opn.length cO) := fun q => (q.below.cell (p := ⟨x, 1, none⟩) hx).trans k1
  have q2 : ∀ q : ExtB w.heap.size w, q.w.cell? ⟨x, 2, none⟩ = some (.slice AP 0 cP) := fun q => (q.below.cell (p := ⟨x, 2, none⟩) hx).trans k2
  have q3 : ∀ q : ExtB w.heap.size w, q.w.cell? ⟨y, 0, none⟩ = some (.slice BF E.firm.length dF) := fun q => (q.below.cell (p := ⟨y, 0, none⟩) hy).trans j0
  have q4 : ∀ q : ExtB w.heap.size w, q.w.cell? ⟨y, 1, none⟩ = some (.slice BO E.opn.length dO) := fun q => (q.below.cell (p := ⟨y, 1, none⟩) hy).trans j1
  have q5 : ∀ q : ExtB w.heap.size w, q.w.cell? ⟨y, 2, none⟩ = some (.slice BP 0 dP) := fun q => (q.below.cell (p := ⟨y, 2, none⟩) hy).trans j2
  have HC1 : Hid (∀ q : ExtB w.heap.size w, Calls Try.prog 34 #[.slice AF D.firm.length cF, .slice BF E.firm.length dF] q.w fun e w' => e = .returned (.bool (decide (D.firm = E.firm))) ∧ Below q.w.heap.size q.w w') := fun q =>
    eq_bl _ _ _ (Lib.hid (row_below HA1.out q.below)) (Lib.hid (row_below HB1.out q.below)) (Lib.hid lD.out.1) (Lib.hid hD.out.1) (Lib.hid hE.out.1)
  have HC2 : Hid (∀ q : ExtB w.heap.size w, Calls Try.prog 35 #[.slice AO D.opn.length cO, .slice BO E.opn.length dO] q.w fun e w' => e = .returned (.bool (decide (D.opn = E.opn))) ∧ Below q.w.heap.size q.w w') := fun q =>
    eq_wr _ _ _ (Lib.hid (row_below HA2.out q.below)) (Lib.hid (row_below HB2.out q.below)) (Lib.hid lD.out.2) (Lib.hid hD.out.2) (Lib.hid hE.out.2)
  obtain ⟨z1, hz1⟩ : ∃ z, z = decide (D.firm = E.firm) := ⟨_, rfl⟩
  obtain ⟨z2, hz2⟩ : ∃ z, z = decide (D.opn = E.opn) := ⟨_, rfl⟩
  rw [← hz1] at HC1 ⊢
  rw [← hz2] at HC2 ⊢
  clear hz1 hz2 hv hu hx hy k0 k1 k2 j0 j1 j2 HA1 HA2 HB1 HB2 h hD hE lD hpD hpE
  obtain ⟨n1, hn⟩ : ∃ n, n = D.firm.length := ⟨_, rfl⟩
  rw [← hn] at q0 HC1
  clear hn
  obtain ⟨n2, hn⟩ : ∃ n, n = D.opn.length := ⟨_, rfl⟩
  rw [← hn] at q1 HC2
  clear hn
  obtain ⟨m1, hn⟩ : ∃ n, n = E.firm.length := ⟨_, rfl⟩
  rw [← hn] at q3 HC1
  clear hn
  obtain ⟨m2, hn⟩ : ∃ n, n = E.opn.length := ⟨_, rfl⟩
  rw [← hn] at q4 HC2
  clear hn
  cases z1 <;> cases z2
  all_goals go_enter Try.func19, Try.ntmps19
  all_goals go_wp2_with fail
  all_goals refine wp_region_quiet_below (by kernel_rfl) (by kernel_rfl) ?_
  all_goals repeat (go_big_quiet_step (first
    | (go_at_call 34; exact calls_ext (Nat.le_refl _) _ (HC1.out _))
    | (go_at_call 35; exact calls_ext (Nat.le_refl _) _ (HC2.out _))
    | (go_at_call 36; exact calls_ext_same _ (eq_int _ _ _ _ _))
    | fail))
  all_goals refine wpQuiet_nil ?_
  all_goals intro W2 hw2
  all_goals obtain ⟨q, hq⟩ := hw2
  all_goals have hb2 := q.below
  all_goals rw [← hq] at hb2
  all_goals clear hq q q0 q1 q2 q3 q4 q5
  all_goals go_wp2
  all_goals go_ret
  all_goals exact ⟨rfl, hb2⟩
end
end Go.Proofs.Ytbfmgdkiigkioaa

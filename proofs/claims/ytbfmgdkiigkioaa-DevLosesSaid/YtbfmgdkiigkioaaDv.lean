/- A device in memory; what only reads it. -/
import Derived.Test.YtbfmgdkiigkioaaBl
import Derived.Test.YtbfmgdkiigkioaaWin
namespace Go.Proofs.Ytbfmgdkiigkioaa
open Go.RowKit Go.LawEnd

noncomputable def bls (l : List Int) : List Value := l.flatMap markC
/-- a write: its sector, its byte -/
abbrev Wr := Int × Int
noncomputable def wrC (p : Wr) : List Value := .int .i64 p.1 :: markC p.2
theorem wrC_length (p : Wr) : (wrC p).length = 65 := by unfold wrC; rw [List.length_cons, markC_length]
noncomputable def wrs (l : List Wr) : List Value := l.flatMap wrC
def ints (l : List Int) : List Value := l.map (Value.int .i64)
/-- a row that slides -/
def winA (v : Value) (e : TypeId) (n : Nat) (xs : List Value) : Atom where
  P w S := Win w 0 e v n xs ∧ ∀ b, S b ↔ v.ownBlock = some b
  lt h hb := (h.1.lt _ ((h.2 _).1 hb)).2
  keep h hk := ⟨h.1.kept fun b hb => hk b ((h.2 b).2 hb), h.2⟩
theorem hv_win {w0 w : World} {S : Nat → Prop} {L : List Atom} {i n : Nat} {v : Value} {e : TypeId} {xs : List Value} (h : Hv w0 S L w) (hi : L[i]? = some (winA v e n xs)) : Win w 0 e v n xs := by obtain ⟨T, hT⟩ := h.at_ hi; exact hT.1
/-- a device: its head; firm sectors, open writes, the plan -/
structure Dv where
  firm : List Int
  opn : List Wr
  plan : List Int
  /-- no plan was ever made -/
  np : Bool
/-- what is nil -/
def Pn (D : Dv) (vO vP : Value) : Prop := (D.opn = [] → vO = .slice none 0 0) ∧ (D.np = true → vP = .slice none 0 0)
noncomputable abbrev blA (v : Value) (l : List Int) : Atom := rowA v 34 64 l.length (bls l)
noncomputable abbrev wrA (v : Value) (l : List Wr) : Atom := rowA v 66 65 l.length (wrs l)
abbrev plA (v : Value) (l : List Int) : Atom := winA v 3 l.length (ints l)
noncomputable def devA (d : Nat) (D : Dv) : Atom := packA fun v : Value × Value × Value => [blkA d 62 #[v.1, v.2.1, v.2.2], blA v.1 D.firm, wrA v.2.1 D.opn, plA v.2.2 D.plan, pureA (Pn D v.2.1 v.2.2)]
theorem dev_open {w0 w : World} {S : Nat → Prop} {R : List Atom} {d : Nat} {D : Dv} (h : Hv w0 S (devA d D :: R) w) : ∃ vF vO vP, Hv w0 S (blkA d 62 #[vF, vO, vP] :: blA vF D.firm :: wrA vO D.opn :: plA vP D.plan :: R) w ∧ Pn D vO vP := by
  obtain ⟨v, hv⟩ := h.open_
  exact ⟨v.1, v.2.1, v.2.2, (hv.front 4 (by simp)).tail, hv.pure_ (i := 4) rfl⟩
theorem dev_close {w0 w : World} {S : Nat → Prop} {R : List Atom} {d : Nat} {D : Dv} {vF vO vP : Value} (h : Hv w0 S (blkA d 62 #[vF, vO, vP] :: blA vF D.firm :: wrA vO D.opn :: plA vP D.plan :: R) w) (hp : Pn D vO vP) : Hv w0 S (devA d D :: R) w :=
  Hv.close (f := fun v : Value × Value × Value => [blkA d 62 #[v.1, v.2.1, v.2.2], blA v.1 D.firm, wrA v.2.1 D.opn, plA v.2.2 D.plan, pureA (Pn D v.2.1 v.2.2)]) (vF, vO, vP) ((Hv.pureI hp h).perm (List.perm_middle (l₁ := [blkA d 62 #[vF, vO, vP], blA vF D.firm, wrA vO D.opn, plA vP D.plan])).symm)
theorem row_form {w : World} {v : Value} {e : TypeId} {size n : Nat} {xs : List Value} (h : w.ownsRow 0 e size v n xs) : ∃ A c, v = .slice A n c := by
  rcases h.2 with ⟨rfl, h0⟩ | ⟨g, cap, cur, rfl, _⟩
  · exact ⟨none, 0, by rw [h0]⟩
  · exact ⟨_, _, rfl⟩
/-- the head's cells -/
theorem dev_cells {w0 w : World} {S : Nat → Prop} {R : List Atom} {d : Nat} {D : Dv} (h : Hv w0 S (devA d D :: R) w) : ∃ AF cF AO cO AP cP, w.cell? ⟨d, 0, none⟩ = some (.slice AF D.firm.length cF) ∧ w.cell? ⟨d, 1, none⟩ = some (.slice AO D.opn.length cO) ∧ w.cell? ⟨d, 2, none⟩ = some (.slice AP D.plan.length cP) ∧
    Hv w0 S (blkA d 62 #[.slice AF D.firm.length cF, .slice AO D.opn.length cO, .slice AP D.plan.length cP] :: blA (.slice AF D.firm.length cF) D.firm :: wrA (.slice AO D.opn.length cO) D.opn :: plA (.slice AP D.plan.length cP) D.plan :: R) w ∧ Pn D (.slice AO D.opn.length cO) (.slice AP D.plan.length cP) := by
  obtain ⟨vF, vO, vP, hv, hpn⟩ := dev_open h
  obtain ⟨AF, cF, rfl⟩ := row_form (hv.row (i := 1) rfl)
  obtain ⟨AO, cO, rfl⟩ := row_form (hv.row (i := 2) rfl)
  obtain ⟨AP, cP, rfl⟩ := (hv_win hv (i := 3) rfl).form
  exact ⟨AF, cF, AO, cO, AP, cP, by simpa using (hv.blk (i := 0) rfl).cell 0, by simpa using (hv.blk (i := 0) rfl).cell 1, by simpa using (hv.blk (i := 0) rfl).cell 2, hv, hpn⟩
section
variable {T : Nat → Prop} {d : Nat} {D : Dv} {w : World}
theorem size_any (h : Hid (Sep [devA d D] w T)) : Calls Try.prog 28 #[.pointer (some ⟨d, 0, none⟩)] w fun e w' => e = .returned (.int .i64 (D.firm.length : Int)) ∧ w = w' := by
  obtain ⟨AF, cF, AO, cO, AP, cP, k0, k1, k2, _⟩ := dev_cells (Hv.start h.out)
  go_enter Try.func28, Try.ntmps28
  go_wp2
  go_ret
  exact ⟨rfl, rfl⟩
theorem open_any (h : Hid (Sep [devA d D] w T)) : Calls Try.prog 16 #[.pointer (some ⟨d, 0, none⟩)] w fun e w' => e = .returned (.int .i64 (D.opn.length : Int)) ∧ w = w' := by
  obtain ⟨AF, cF, AO, cO, AP, cP, k0, k1, k2, _⟩ := dev_cells (Hv.start h.out)
  go_enter Try.func16, Try.ntmps16
  go_wp2
  go_ret
  exact ⟨rfl, rfl⟩
theorem planned_any (h : Hid (Sep [devA d D] w T)) : Calls Try.prog 23 #[.pointer (some ⟨d, 0, none⟩)] w fun e w' => e = .returned (.int .i64 (D.plan.length : Int)) ∧ w = w' := by
  obtain ⟨AF, cF, AO, cO, AP, cP, k0, k1, k2, _⟩ := dev_cells (Hv.start h.out)
  go_enter Try.func23, Try.ntmps23
  go_wp2
  go_ret
  exact ⟨rfl, rfl⟩
/-- may a sector be? -/
def there (D : Dv) (s : Int) : Bool := decide (0 ≤ s) && decide (s < (D.firm.length : Int))
theorem check_any (s : Int) (h : Hid (Sep [devA d D] w T)) : Calls Try.prog 29 #[.pointer (some ⟨d, 0, none⟩), .int .i64 s] w fun e w' => e = .returned (.int .i64 (if there D s = true then 0 else 10)) ∧ w = w' := by
  obtain ⟨AF, cF, AO, cO, AP, cP, k0, k1, k2, _⟩ := dev_cells (Hv.start h.out)
  by_cases h0 : 0 ≤ s
  · by_cases h1 : s < (D.firm.length : Int)
    · rw [show there D s = true by unfold there; rw [decide_eq_true h0, decide_eq_true h1]; rfl, if_pos rfl]
      have d1 : decide (s < 0) = false := decide_eq_false (by omega)
      have d2 : decide ((D.firm.length : Int) ≤ s) = false := decide_eq_false (by omega)
      go_enter Try.func29, Try.ntmps29
      go_wp2
      go_ret
      exact ⟨rfl, rfl⟩
    · rw [show there D s = false by unfold there; rw [decide_eq_false h1, Bool.and_false], if_neg (by simp)]
      have d1 : decide (s < 0) = false := decide_eq_false (by omega)
      have d2 : decide ((D.firm.length : Int) ≤ s) = true := decide_eq_true (by omega)
      go_enter Try.func29, Try.ntmps29
      go_wp2
      go_ret
      exact ⟨rfl, rfl⟩
  · rw [show there D s = false by unfold there; rw [decide_eq_false h0, Bool.false_and], if_neg (by simp)]
    have d1 : decide (s < 0) = true := decide_eq_true (by omega)
    go_enter Try.func29, Try.ntmps29
    go_wp2
    go_ret
    exact ⟨rfl, rfl⟩
end
end Go.Proofs.Ytbfmgdkiigkioaa

/- What an index is in memory; none, check. -/
import Derived.Test.YtofeodhekpnpaaaChecked
import Derived.Test.YtofeodhekpnpaaaCh
import Derived.Test.YtofeodhekpnpaaaMapInt
import Derived.WalkKit
import Derived.WalkSpells
import Derived.WalkLawsBesides
import Derived.Lib.Hide
import Derived.Deep.DeepCutAuto
import Derived.Deep.QuietTactic
import Derived.BigQuiet
import Derived.Laws.ResultCell
import Derived.Deep.RegionHeld3
namespace Go.Proofs.Ytofeodhekpnpaaa
open Go.RowKit Go.LawEnd

theorem keyLaw : Maps.Keyed Try.prog 3 := Maps.int_keyed Try.underlying3
theorem zeroInt : ∀ u : World, (zeroValue 3).run Try.prog u = .ok (.int .i64 0) u := fun u => by kernel_rfl
abbrev Map (w : World) (b n : Nat) (f : Int → Option Int) : Prop := MapAt Try.prog 3 3 w b n f
def pcs (l : List (Int × Bool)) : List Value := l.flatMap fun p => [.int .i64 p.1, .bool p.2]
structure Rowd where
  g : Nat
  cap : Nat
  tl : List Value
instance : Coe Rowd Nat := ⟨Rowd.g⟩
structure Idx (w : World) (x : Nat) (g : Rowd) (b n : Nat) (l : List (Int × Bool)) (f : Int → Option Int) (slots : Nat) : Prop where
  head : Blk w x 62 #[.slice (some ⟨g, 0, none⟩) l.length g.cap, .map (some b), .int .i64 (slots : Int)]
  row : Blk w g 35 (pcs l ++ g.tl).toArray
  map : Map w b n f

section
variable {w w' : World} {x b n slots : Nat} {g : Rowd} {l : List (Int × Bool)} {f : Int → Option Int}
theorem pcs_length (l : List (Int × Bool)) : (pcs l).length = l.length * 2 := by
  induction l with
  | nil => rfl
  | cons p l ih => simp only [pcs, List.flatMap_cons, List.length_append] at ih ⊢; rw [ih]; simp; omega
theorem pcs_get (l : List (Int × Bool)) (j : Nat) (h : j < l.length) : (pcs l)[j * 2]? = some (.int .i64 l[j].1) ∧ (pcs l)[j * 2 + 1]? = some (.bool l[j].2) := by
  induction l generalizing j with
  | nil => simp at h
  | cons p l ih =>
    have e : pcs (p :: l) = .int .i64 p.1 :: .bool p.2 :: pcs l := by simp [pcs]
    rw [e]
    cases j with
    | zero => simp
    | succ j =>
      have := ih j (by simpa using h)
      rw [show (j + 1) * 2 = j * 2 + 1 + 1 by omega]
      simpa using this
theorem pcs_get_tl (l : List (Int × Bool)) (tl : List Value) (j : Nat) (h : j < l.length) : (pcs l ++ tl)[j * 2]? = some (.int .i64 l[j].1) ∧ (pcs l ++ tl)[j * 2 + 1]? = some (.bool l[j].2) := by
  have hl := pcs_length l
  rw [List.getElem?_append_left (by omega), List.getElem?_append_left (by omega)]
  exact pcs_get l j h
theorem pcs_set (l : List (Int × Bool)) (j : Nat) (h : j < l.length) (p : Int × Bool) : ((pcs l).set (j * 2) (.int .i64 p.1)).set (j * 2 + 1) (.bool p.2) = pcs (l.set j p) := by
  induction l generalizing j with
  | nil => simp at h
  | cons q l ih =>
    have e : ∀ (q : Int × Bool) l, pcs (q :: l) = .int .i64 q.1 :: .bool q.2 :: pcs l := fun q l => by simp [pcs]
    cases j with
    | zero => simp [e]
    | succ j =>
      rw [List.set_cons_succ, e, e, ← ih j (by simpa using h), show (j + 1) * 2 = j * 2 + 1 + 1 by omega]
      rfl
theorem pcs_set_tl (l : List (Int × Bool)) (tl : List Value) (j : Nat) (h : j < l.length) (p : Int × Bool) : ((pcs l ++ tl).set (j * 2) (.int .i64 p.1)).set (j * 2 + 1) (.bool p.2) = pcs (l.set j p) ++ tl := by
  have hl := pcs_length l
  rw [← pcs_set l j h p, List.set_append_left _ _ (by omega), List.set_append_left _ _ (by simp; omega)]
theorem Idx.ch {S : Nat → Prop} (h : Idx w x g b n l f slots) (hc : Ch S w w') (hx : ¬ S x) (hg : ¬ S g) (hb : ¬ S b) : Idx w' x g b n l f slots := ⟨h.head.ch hc hx, h.row.ch hc hg, h.map.ch hc hb⟩
theorem Idx.below {B : Nat} (h : Idx w x g b n l f slots) (hb : Below B w w') (hB : w.heap.size ≤ B) : Idx w' x g b n l f slots :=
  ⟨h.head.below hb (by have := h.head.lt; omega), h.row.below hb (by have := h.row.lt; omega), h.map.below hb (by have := h.map.lt; omega)⟩
theorem Idx.xg (h : Idx w x g b n l f slots) : x ≠ g := Blk.ne_ h.head h.row (by decide)
theorem Idx.xb (h : Idx w x g b n l f slots) : x ≠ b := h.map.ne_blk h.head
theorem Idx.gb (h : Idx w x g b n l f slots) : g ≠ b := h.map.ne_blk h.row
theorem Idx.cell_ (h : Idx w x g b n l f slots) (j : Nat) (hj : j < l.length) : w.cell? ⟨g, j * 2, none⟩ = some (.int .i64 l[j].1) ∧ w.cell? ⟨g, j * 2 + 1, none⟩ = some (.bool l[j].2) := by
  have := pcs_get_tl l g.tl j hj
  exact ⟨by rw [h.row.cell]; simpa using this.1, by rw [h.row.cell]; simpa using this.2⟩
end

theorem results_cell_one {fn : Func} {p : Tmp} {ty : TypeId} (h : fn.results = #[.cell p ty]) (tmps : Array Value) (P : Program) (w : World) :
    (results fn tmps).run P w = ((asAddr (tmps.getD p undef)).run P w).andThen fun a w₁ => (loadVar ty a).run P w₁ := by
  simp only [results, h]
  simp [Sem.run_bind]

theorem none_any (w : World) : Calls Try.prog 24 #[] w fun e w' => e = .returned (.agg #[.int .i64 (-1), .bool false]) ∧ Below w.heap.size w w' := by
  have hb : Hid (Below w.heap.size w (w.alloc (.cells #[.int .i64 (-1), .bool false] 35))) := (Below.refl w.heap.size w).alloc (Nat.le_refl _) _
  go_enter Try.func24, Try.ntmps24
  go_wp2
  refine bodyPost_ret (v := .agg #[.int .i64 (-1), .bool false]) ?_ rfl ⟨rfl, hb.out⟩
  rw [results_cell_one rfl]
  go_simp

section
variable {w : World} {x b n slots : Nat} {g : Rowd} {l : List (Int × Bool)} {f : Int → Option Int}
theorem check_nil (i : Int) : Calls Try.prog 29 #[.pointer none, .int .i64 i] w fun e w' => e = .returned (.int .i64 2) ∧ w = w' := by
  go_enter Try.func29, Try.ntmps29
  go_wp2
  go_ret
  exact ⟨rfl, rfl⟩
theorem check_in (i : Nat) (h : Hid (Idx w x g b n l f slots)) (hi : i < l.length) : Calls Try.prog 29 #[.pointer (some ⟨x, 0, none⟩), .int .i64 (i : Int)] w fun e w' => e = .returned (.int .i64 0) ∧ w = w' := by
  have c0 := h.out.head.cell 0
  simp at c0
  go_enter Try.func29, Try.ntmps29
  go_wp2
  go_ret
  exact ⟨rfl, rfl⟩
theorem check_out (i : Int) (h : Hid (Idx w x g b n l f slots)) (hi : i < 0 ∨ (l.length : Int) ≤ i) : Calls Try.prog 29 #[.pointer (some ⟨x, 0, none⟩), .int .i64 i] w fun e w' => e = .returned (.int .i64 10) ∧ w = w' := by
  have c0 := h.out.head.cell 0
  simp at c0
  by_cases h0 : i < 0
  · clear hi
    go_enter Try.func29, Try.ntmps29
    go_wp2
    go_ret
    exact ⟨rfl, rfl⟩
  · have h1 : (l.length : Int) ≤ i := by omega
    clear hi
    go_enter Try.func29, Try.ntmps29
    go_wp2
    go_ret
    exact ⟨rfl, rfl⟩
end
end Go.Proofs.Ytofeodhekpnpaaa

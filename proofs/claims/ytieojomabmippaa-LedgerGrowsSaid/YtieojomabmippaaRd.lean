/- A slice value that reads as a list of cells, nil and empty ones too; over any program. -/
import Derived.Test.YtieojomabmippaaCh
import Derived.Test.YtieojomabmippaaOpenRows
import Derived.Test.YtieojomabmippaaOwns
namespace Go.LawEnd
open Go.RowKit

/-- v is a slice of n elements of 'size' cells each, which hold cs, in a block below B -/
def Rd (w : World) (B size : Nat) (v : Value) (n : Nat) (cs : List Value) : Prop :=
  cs.length = n * size ∧ ∃ A c, v = .slice A n c ∧ n ≤ c ∧ (0 < n → ∃ b off, A = some ⟨b, off, none⟩ ∧ b < B ∧ ∀ j (h : j < cs.length), w.cell? ⟨b, off + j, none⟩ = some cs[j])

section
variable {w w' : World} {B B' size n : Nat} {v : Value} {cs : List Value}
theorem Rd.nil_ (w : World) (B size : Nat) : Rd w B size (.slice none 0 0) 0 [] := ⟨by simp, none, 0, rfl, Nat.le_refl _, fun h => absurd h (by omega)⟩
theorem Rd.form (h : Rd w B size v n cs) : ∃ A c, v = .slice A n c := by obtain ⟨_, A, c, h, _⟩ := h; exact ⟨A, c, h⟩
theorem Rd.keep (h : Rd w B size v n cs) (hk : ∀ p : Addr, p.block < B → w'.cell? p = w.cell? p) : Rd w' B size v n cs := by
  obtain ⟨h1, A, c, rfl, hnc, h2⟩ := h
  refine ⟨h1, A, c, rfl, hnc, fun hn => ?_⟩
  obtain ⟨b, off, rfl, hb, hc⟩ := h2 hn
  exact ⟨b, off, rfl, hb, fun j hj => (hk ⟨b, off + j, none⟩ hb).trans (hc j hj)⟩
theorem Rd.mono (h : Rd w B size v n cs) (hB : B ≤ B') : Rd w B' size v n cs := by
  obtain ⟨h1, A, c, rfl, hnc, h2⟩ := h
  refine ⟨h1, A, c, rfl, hnc, fun hn => ?_⟩
  obtain ⟨b, off, rfl, hb, hc⟩ := h2 hn
  exact ⟨b, off, rfl, by omega, hc⟩
theorem Rd.below (h : Rd w B size v n cs) (hb : Below B' w w') (hB : B ≤ B') : Rd w' B size v n cs := h.keep fun p hp => hb.cell (p := p) (by omega)
theorem Rd.ch {S : Nat → Prop} (h : Rd w B size v n cs) (hc : Ch S w w') (hB : B ≤ w.heap.size) (hS : ∀ k, k < B → ¬ S k) : Rd w' B size v n cs := h.keep fun p hp => hc.cell (p := p) (by omega) (hS _ hp)
theorem Rd.get (h : Rd w B 1 v n cs) {k : Nat} (hk : k < n) : ∃ b off c, v = .slice (some ⟨b, off, none⟩) n c ∧ b < B ∧ ∃ hk' : k < cs.length, w.cell? ⟨b, off + k, none⟩ = some cs[k] := by
  obtain ⟨h1, A, c, rfl, hnc, h2⟩ := h
  obtain ⟨b, off, rfl, hb, hc⟩ := h2 (by omega)
  exact ⟨b, off, c, rfl, hb, by omega, hc k (by omega)⟩
theorem Rd.at_ {A : Option Addr} {c : Nat} (h : Rd w B 1 (.slice A n c) n cs) {k : Nat} (hk : k < n) : ∃ b off, A = some ⟨b, off, none⟩ ∧ b < B ∧ ∃ hk' : k < cs.length, w.cell? ⟨b, off + k, none⟩ = some cs[k] := by
  obtain ⟨h1, A', c', e, hnc, h2⟩ := h
  injection e with e1 _ _
  subst e1
  obtain ⟨b, off, rfl, hb, hc⟩ := h2 (by omega)
  exact ⟨b, off, rfl, hb, by omega, hc k (by omega)⟩
theorem Rd.of_own {base : Nat} {e : TypeId} (h : w.ownsRow base e size v n cs) : Rd w w.heap.size size v n cs := by
  refine ⟨h.1, ?_⟩
  rcases h.2 with ⟨rfl, rfl⟩ | ⟨g, cap, cur, rfl, _, hh, hnc, _⟩
  · exact ⟨none, 0, rfl, Nat.le_refl _, fun h => absurd h (by omega)⟩
  · refine ⟨_, cap, rfl, hnc, fun _ => ⟨g, 0, rfl, lt_of_obj hh, fun j hj => ?_⟩⟩
    rw [Nat.zero_add, h.cellAt j (by have := h.1; omega), List.getElem?_eq_getElem hj]
/-- a row that has just been laid -/
theorem Rd.new (w : World) (T : TypeId) (cs : Array Value) (n c : Nat) (size : Nat) (fr : Nat × Nat) (h : cs.size = n * size) (hc : n ≤ c) : Rd (w.alloc (.cells cs T fr)) (w.heap.size + 1) size (.slice (some ⟨w.heap.size, 0, none⟩) n c) n cs.toList := by
  refine ⟨by simpa using h, _, c, rfl, hc, fun _ => ⟨w.heap.size, 0, rfl, by omega, fun j hj => ?_⟩⟩
  have : (w.alloc (.cells cs T fr)).heap[w.heap.size]? = some (.cells cs T fr) := heap_alloc_new w _
  rw [Nat.zero_add]
  simp only [World.cell?, this]
  have hj' : j < cs.size := by simpa using hj
  simp [hj']
theorem Rd.of_blk {g c : Nat} {T : TypeId} {cs : Array Value} (hb : Blk w g T cs) (h : cs.size = n * size) (hc : n ≤ c) : Rd w w.heap.size size (.slice (some ⟨g, 0, none⟩) n c) n cs.toList := by
  refine ⟨by simpa using h, _, c, rfl, hc, fun _ => ⟨g, 0, rfl, hb.lt, fun j hj => ?_⟩⟩
  rw [Nat.zero_add, hb.cell]
  have hj' : j < cs.size := by simpa using hj
  simp [hj']
end

variable {H : Type} {enc : TypeId × Value → H} {P : Program}
/-- a slice of integers that came in -/
theorem open_rd {W : World} {base : Nat} {t e : TypeId} {k : IntKind} {v : Value} {d : DataW H} {p : List MemPlace} (ht : P.underlying t = some (.slice e)) (he : P.underlying e = some (.int k)) (hc : P.cellsOf e = 1)
    (hv : Value.okWide P W .any base t v) (h : DataW.Trod enc P W 0 (fun _ => true) true t v d p) :
    ∃ A n c, ∃ zs : List Int, v = .slice A n c ∧ zs.length = n ∧ c ≤ maxLen ∧ (∀ z ∈ zs, (Lit.int k z).wf = true) ∧ Rd W W.heap.size 1 (.slice A n c) n (zs.map (Value.int k)) := by
  obtain ⟨A, n, c, zs, rfl, hn, hnc, hcm, hw, hcells⟩ := open_row ht he hc hv h
  refine ⟨A, n, c, zs, rfl, hn, hcm, hw, by simp [hn], A, c, rfl, hnc, fun h0 => ?_⟩
  obtain ⟨b, off, rfl, hb, hcl⟩ := hcells h0
  exact ⟨b, off, rfl, hb, fun j hj => by rw [hcl j (by simpa using hj)]; simp⟩
end Go.LawEnd

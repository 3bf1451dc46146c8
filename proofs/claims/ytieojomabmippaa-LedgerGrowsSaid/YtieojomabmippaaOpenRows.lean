/- A slice that came in, of whatever element type: its rows of cells, each of which reads as the element's type; over any program. -/
import Derived.Test.YtieojomabmippaaOpenInts
namespace Go.LawEnd
open Go.RowKit Go.WideShapes Go.ChangeShapes Go.ChangeAt

theorem mapM_get {α β : Type} {f : α → Option β} : ∀ {l : List α} {r : List β}, l.mapM f = some r → r.length = l.length ∧ ∀ i (h : i < l.length), f l[i] = r[i]?
  | [], r, h => by simp at h; subst h; simp
  | x :: l, r, h => by
    simp only [List.mapM_cons, Option.bind_eq_bind, Option.bind_eq_some_iff, Option.pure_def, Option.some.injEq] at h
    obtain ⟨y, hy, r', hr, rfl⟩ := h
    obtain ⟨h1, h2⟩ := mapM_get hr
    refine ⟨by simp [h1], fun i hi => ?_⟩
    cases i with
    | zero => simpa using hy
    | succ i => simpa using h2 i (by simpa using hi)

theorem cells_get {w : World} {base n : Nat} {a : Addr} {r : List Value} (h : w.cells? base a n = some r) : r.length = n ∧ ∀ j, j < n → w.cell? (a.add j) = r[j]? := by
  unfold World.cells? at h
  split at h
  · obtain ⟨h1, h2⟩ := mapM_get h
    refine ⟨by simpa using h1, fun j hj => ?_⟩
    have := h2 j (by simpa using hj)
    simpa using this
  · cases h

theorem add_off (b off j : Nat) : (⟨b, off, none⟩ : Addr).add j = ⟨b, off + j, none⟩ := by
  unfold Addr.add
  split
  · rename_i h; subst h; rfl
  · rfl
theorem add_spot {a : Addr} {w : World} {v : Value} {i j : Nat} (h : w.cell? ((a.add i).add j) = some v) : ∃ b off, a = ⟨b, off, none⟩ ∨ 0 < i + j ∧ a.block = b ∧ a.off = off := by
  by_cases h0 : 0 < i + j
  · exact ⟨a.block, a.off, .inr ⟨h0, rfl, rfl⟩⟩
  · obtain ⟨rfl, rfl⟩ : i = 0 ∧ j = 0 := by omega
    have hs : a.spot = none := by simpa [Addr.add] using World.cell?_spot h
    obtain ⟨b, off, sp⟩ := a
    exact ⟨b, off, .inl (by simp at hs; subst hs; rfl)⟩

variable {H : Type} {enc : TypeId × Value → H} {P : Program}

theorem open_rows {W : World} {base : Nat} {t e m : Nat} {v : Value} {d : DataW H} {p : List MemPlace} (ht : P.underlying t = some (.slice e)) (hm : P.cellsOf e = m) (hm0 : 0 < m)
    (hv : Value.okWide P W .any base t v) (h : DataW.Trod enc P W 0 (fun _ => true) true t v d p) :
    ∃ A n c, ∃ rows : List (List Value), v = .slice A n c ∧ rows.length = n ∧ n ≤ c ∧ c ≤ maxLen ∧ (∀ r ∈ rows, r.length = m ∧ ∃ fuel y, DataW.trod enc P W 0 (fun _ => true) true fuel e r = some y) ∧
      (0 < n → ∃ b off, A = some ⟨b, off, none⟩ ∧ b < W.heap.size ∧ ∀ i (hi : i < rows.length) j, j < m → W.cell? ⟨b, off + i * m + j, none⟩ = rows[i][j]?) := by
  obtain ⟨a0, len, cap, rfl⟩ := okWide_slice ht hv
  obtain ⟨fuel, hf⟩ := h
  rcases DataW.trod_slice ht hf with ⟨hcs, hx⟩ | ⟨a, len', cap', elems, rest, n, _, hcs, _, _, hl, hmx, hlen, hel, _, _⟩
  · simp [Value.cells] at hcs
    obtain ⟨rfl, rfl, rfl⟩ := hcs
    exact ⟨none, 0, 0, [], rfl, rfl, Nat.le_refl _, by unfold maxLen; omega, fun z hz => (by cases hz), fun h => absurd h (by omega)⟩
  · simp [Value.cells] at hcs
    obtain ⟨rfl, rfl, rfl⟩ := hcs
    rw [hm] at hel
    have hrow : ∀ i, i < len → ∃ r, W.cells? 0 (a.add (i * m)) m = some r ∧ ∃ y, DataW.trod enc P W 0 (fun _ => true) true n e r = some y := by
      intro i hi
      have he := hel i hi
      rw [List.getElem?_eq_getElem (by omega)] at he
      obtain ⟨r, h1, h2⟩ := Option.bind_eq_some_iff.1 he
      exact ⟨r, h1, _, h2⟩
    let rows := (List.range len).map fun i => ((W.cells? 0 (a.add (i * m)) m).getD [])
    have hget : ∀ i (hi : i < rows.length), W.cells? 0 (a.add (i * m)) m = some rows[i] := by
      intro i hi
      obtain ⟨r, h1, _⟩ := hrow i (by simpa [rows] using hi)
      simp [rows, h1]
    refine ⟨some a, len, cap, rows, rfl, by simp [rows], hl, hmx, ?_, fun h0 => ?_⟩
    · intro r hr
      obtain ⟨i, hi, rfl⟩ := List.getElem_of_mem hr
      have h1 := hget i hi
      obtain ⟨r', h2, y, h3⟩ := hrow i (by simpa [rows] using hi)
      rw [h1] at h2
      injection h2 with h2
      exact ⟨(cells_get h1).1, n, y, by rw [h2]; exact h3⟩
    · have h00 := hget 0 (by simpa [rows] using h0)
      have hr0 := cells_get h00
      have hc0 := hr0.2 0 hm0
      rw [List.getElem?_eq_getElem (by omega)] at hc0
      have hs : a.spot = none := by
        have := World.cell?_spot hc0
        simpa [Addr.add] using this
      obtain ⟨b, off, sp⟩ := a
      simp at hs
      subst hs
      refine ⟨b, off, rfl, ?_, fun i hi j hj => ?_⟩
      · have := block_lt hc0
        simpa [Addr.add] using this
      · have := (cells_get (hget i hi)).2 j hj
        rw [add_off, add_off] at this
        exact this
end Go.LawEnd

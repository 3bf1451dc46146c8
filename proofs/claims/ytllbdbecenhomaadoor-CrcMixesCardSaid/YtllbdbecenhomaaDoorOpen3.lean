/- A [][3]byte that came in reads as three lists of bytes. -/
import Derived.Test.YtllbdbecenhomaaDoorMixes
import Derived.Test.YtllbdbecenhomaaDoorOpenRows
namespace Go.Proofs.YtllbdbecenhomaaDoor
open Go.RowKit Go.WideShapes Go.ChangeShapes Go.ChangeAt

theorem cells3 : Tryd.prog.cellsOf 28 = 3 := by kernel_rfl
theorem cells1 : Tryd.prog.cellsOf 5 = 1 := by kernel_rfl
theorem elem3 {H : Type} {enc : TypeId × Value → H} {W : World} {fuel : Nat} {r : List Value} {y : DataW H × List MemPlace} (h : DataW.trod enc Tryd.prog W 0 (fun _ => true) true fuel 28 r = some y) :
    ∃ x0 x1 x2 : Nat, x0 < 256 ∧ x1 < 256 ∧ x2 < 256 ∧ r = [.int .u8 (x0 : Int), .int .u8 (x1 : Int), .int .u8 (x2 : Int)] := by
  obtain ⟨xs, m, _, _, hl, hn, hx⟩ := DataW.trod_array Tryd.underlying28 h
  rw [cells3] at hl
  rw [cells1] at hx
  match r, hl with
  | [v0, v1, v2], _ =>
    have e0 := hx 0 (by omega)
    have e1 := hx 1 (by omega)
    have e2 := hx 2 (by omega)
    rw [List.getElem?_eq_getElem (by omega)] at e0 e1 e2
    obtain ⟨a, ea, _, wa⟩ := DataW.trod_int Tryd.underlying5 e0
    obtain ⟨b, eb, _, wb⟩ := DataW.trod_int Tryd.underlying5 e1
    obtain ⟨c, ec, _, wc⟩ := DataW.trod_int Tryd.underlying5 e2
    simp at ea eb ec
    subst ea; subst eb; subst ec
    have ha := bounds_u8 wa
    have hb := bounds_u8 wb
    have hc := bounds_u8 wc
    refine ⟨a.toNat, b.toNat, c.toNat, by omega, by omega, by omega, ?_⟩
    rw [Int.toNat_of_nonneg ha.1, Int.toNat_of_nonneg hb.1, Int.toNat_of_nonneg hc.1]

def natAt (j : Nat) (r : List Value) : Nat := match r[j]? with
  | some (.int _ n) => n.toNat
  | _ => 0

theorem open_mixes {H : Type} {enc : TypeId × Value → H} {W : World} {base : Nat} {v : Value} {d : DataW H} {p : List MemPlace} (hv : Value.okWide Tryd.prog W .any base 27 v) (h : DataW.Trod enc Tryd.prog W 0 (fun _ => true) true 27 v d p)
    (hT : Hid (Tab W)) (h0 : 0 < W.heap.size) :
    ∃ A n c, v = .slice A n c ∧ Calls Tryd.prog 4 #[.slice A n c] W (Yes W) := by
  obtain ⟨A, n, c, rows, rfl, hn, hnc, hc, hr, hcells⟩ := LawEnd.open_rows Tryd.underlying27 cells3 (by omega) hv h
  refine ⟨A, n, c, rfl, ?_⟩
  by_cases hbig : 300 < n
  · exact mixes_out A n c W hT h0 hbig
  · have hlt : ∀ j, j < 3 → ∀ x ∈ rows.map (natAt j), x < 256 := by
      intro j hj x hx
      obtain ⟨r, hm, rfl⟩ := List.mem_map.1 hx
      obtain ⟨_, fuel, y, hy⟩ := hr r hm
      obtain ⟨x0, x1, x2, l0, l1, l2, rfl⟩ := elem3 hy
      match j, hj with
      | 0, _ => simpa [natAt] using l0
      | 1, _ => simpa [natAt] using l1
      | 2, _ => simpa [natAt] using l2
    refine mixes_in A n c (rows.map (natAt 0)) (rows.map (natAt 1)) (rows.map (natAt 2)) _ W hT h0 (by omega) (by simp [hn]) (by simp [hn]) (by simp [hn]) (hlt 0 (by omega)) (hlt 1 (by omega)) (hlt 2 (by omega)) rfl ?_
    intro hpos
    obtain ⟨b, off, rfl, hb, hc⟩ := hcells hpos
    refine ⟨b, off, rfl, hb, fun i hi => ?_⟩
    have hi' : i < rows.length := by omega
    obtain ⟨_, fuel, y, hy⟩ := hr rows[i] (List.getElem_mem hi')
    obtain ⟨x0, x1, x2, l0, l1, l2, e⟩ := elem3 hy
    have c0 := hc i hi' 0 (by omega)
    have c1 := hc i hi' 1 (by omega)
    have c2 := hc i hi' 2 (by omega)
    rw [e] at c0 c1 c2
    have g : ∀ j, (rows.map (natAt j)).getD i 0 = natAt j rows[i] := fun j => by simp [List.getD_eq_getElem?_getD, hi']
    rw [g, g, g, e]
    exact ⟨by simpa [natAt] using c0, by simpa [natAt] using c1, by simpa [natAt] using c2⟩
end Go.Proofs.YtllbdbecenhomaaDoor

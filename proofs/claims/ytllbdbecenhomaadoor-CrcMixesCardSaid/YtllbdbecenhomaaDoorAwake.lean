/- The walk of awake: the chapter's examples hold. -/
import Derived.Test.YtllbdbecenhomaaDoorSum2
import Derived.Lib.SlBytesConst
namespace Go.Proofs.YtllbdbecenhomaaDoor
open Go.RowKit Go.Proofs.CrcMath

theorem BytesAt.mono {w : World} {B B' : Nat} {v : Value} {l : List Nat} (h : BytesAt w B v l) (hB : B ≤ B') : BytesAt w B' v l := by
  obtain ⟨h1, A, c, rfl, h2⟩ := h
  refine ⟨h1, A, c, rfl, fun hl => ?_⟩
  obtain ⟨b, off, rfl, hlt, hc⟩ := h2 hl
  exact ⟨b, off, rfl, by omega, hc⟩
theorem BytesAt.alloc {w : World} {B : Nat} {v : Value} {l : List Nat} (h : BytesAt w B v l) (hB : B ≤ w.heap.size) (o : Obj) : BytesAt (w.alloc o) B v l :=
  h.below ((Below.refl w.heap.size w).alloc (Nat.le_refl _) o) hB
theorem BytesAt.nil_ (w : World) (B : Nat) : BytesAt w B (.slice none 0 0) [] := ⟨fun _ h => (by cases h), none, 0, rfl, fun h => absurd h (by simp)⟩
theorem cell_new (w : World) (vs : Array Value) (T : TypeId) (fr : Nat × Nat) (j : Nat) : (w.alloc (.cells vs T fr)).cell? ⟨w.heap.size, j, none⟩ = vs[j]? := by
  have : (w.alloc (.cells vs T fr)).heap[w.heap.size]? = some (.cells vs T fr) := by
    show (w.heap.push _)[w.heap.size]? = _
    simp
  simp only [World.cell?, this]; rfl
/-- a new row of byte slices -/
theorem rows_new {w : World} (vs : Array Value) (T : TypeId) (ls : List (List Nat)) (fr : Nat × Nat) (hsz : vs.size = ls.length) (h : ∀ j (h : j < ls.length) v, vs[j]? = some v → BytesAt w w.heap.size v ls[j]) :
    RowsAt (w.alloc (.cells vs T fr)) (w.heap.size + 1) (some ⟨w.heap.size, 0, none⟩) ls.length ls := by
  refine ⟨rfl, fun _ => ⟨w.heap.size, 0, rfl, by omega, fun j hj => ?_⟩⟩
  refine ⟨vs[j], ?_, ((h j hj _ (Array.getElem?_eq_getElem (by omega))).alloc (Nat.le_refl _) _).mono (by omega)⟩
  rw [cell_new, Nat.zero_add]
  exact Array.getElem?_eq_getElem (by omega)
/-- a new row of bytes -/
theorem bytes_new {w : World} (l : List Nat) (T : TypeId) (fr : Nat × Nat) (hb : ∀ x ∈ l, x < 256) (c : Nat) :
    BytesAt (w.alloc (.cells (l.map fun x : Nat => Value.int .u8 (x : Int)).toArray T fr)) (w.heap.size + 1) (.slice (some ⟨w.heap.size, 0, none⟩) l.length c) l := by
  refine ⟨hb, _, c, rfl, fun _ => ⟨w.heap.size, 0, rfl, by omega, fun j hj => ?_⟩⟩
  rw [cell_new, Nat.zero_add]
  simp [hj]

def nine : List Nat := [49, 50, 51, 52, 53, 54, 55, 56, 57]
theorem sum_nine : sum nine = 3808858755 := by decide +kernel
theorem noughts_32 : shifted all 32 ^^^ all = 2324772522 := by decide +kernel

set_option maxHeartbeats 800000 in
theorem awake_any (w : World) (hT : Hid (Tab w)) (h0 : 0 < w.heap.size) :
    Calls Tryd.prog 9 #[] w fun e w' => e = .returned (.bool true) ∧ Below w.heap.size w w' := by
  have c13 := noughts_yes 32 w (by omega) hT
  rw [noughts_32] at c13
  have C13 := Lib.hid c13
  clear c13
  have kc := fun (w : World) (C : Array Value) (n c : Nat) => Lib.run_convert_bytes_const (P := Tryd.prog) w 22 5 C n c Tryd.underlying22 Tryd.underlying5
  go_enter Tryd.func9, Tryd.ntmps9
  go_wp2_with fail
  refine C13.out.mono ?_
  rintro e w' ⟨rfl, rfl⟩
  go_wp2_with fail
  have h1 := bytes_new (w := w) nine 5 (9, 10) (by decide) 9
  have h2 := rows_new (w := w.alloc (.cells (nine.map fun x : Nat => Value.int .u8 (x : Int)).toArray 5 (9, 10))) #[.slice (some ⟨w.heap.size, 0, none⟩) 9 9] 22 [nine] (0, 0) rfl (fun j hj v hv => by
    obtain rfl : j = 0 := by simpa using hj
    simp at hv; subst hv; exact h1.mono (by simp))
  have hT2 := (hT.out.below ((Below.refl w.heap.size w).alloc (Nat.le_refl _) (.cells (nine.map fun x : Nat => Value.int .u8 (x : Int)).toArray 5 (9, 10))) h0)
  have hb := ((Below.refl w.heap.size w).alloc (Nat.le_refl _) (.cells (nine.map fun x : Nat => Value.int .u8 (x : Int)).toArray 5 (9, 10))).alloc (by simp) (.cells #[.slice (some ⟨w.heap.size, 0, none⟩) 9 9] 22)
  have hs := sum_any (some ⟨w.heap.size + 1, 0, none⟩) 1 1 [nine] ((w.alloc (.cells (nine.map fun x : Nat => Value.int .u8 (x : Int)).toArray 5 (9, 10))).alloc (.cells #[.slice (some ⟨w.heap.size, 0, none⟩) 9 9] 22)) (by omega) (by decide) (hT.out.below hb h0) (by simp) (by simpa using h2)
  refine hs.mono ?_
  rintro e w1 ⟨rfl, hb1⟩
  have HB := Lib.hid (hb.trans (hb1.mono (by simp; omega)))
  clear hb hb1 hs h2 h1 hT2
  rw [show sum [nine].flatten = 3808858755 from sum_nine]
  go_wp2
  go_ret
  exact ⟨rfl, HB.out⟩
end Go.Proofs.YtllbdbecenhomaaDoor

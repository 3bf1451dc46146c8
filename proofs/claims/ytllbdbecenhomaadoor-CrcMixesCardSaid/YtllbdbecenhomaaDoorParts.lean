/- The walk of CrcParts. -/
import Derived.Test.YtllbdbecenhomaaDoorGrows
namespace Go.Proofs.YtllbdbecenhomaaDoor
open Go.RowKit Go.Proofs.CrcMath

/-- Sum of a row of byte slices that the caller has just laid. -/
theorem sum_rows (n : Nat) (vs : Array Value) (ls : List (List Nat)) (w : World) (hn : n = ls.length) (hsz : vs.size = ls.length) (hs : ls.length ≤ 1048576) (hls : ∀ l ∈ ls, l.length ≤ 1048576) (hT : Hid (Tab w)) (h0 : 0 < w.heap.size)
    (h : ∀ j (h : j < ls.length) v, vs[j]? = some v → BytesAt w w.heap.size v ls[j]) :
    Calls Tryd.prog 11 #[.slice (some ⟨w.heap.size, 0, none⟩) n n] (w.alloc (.cells vs 22)) fun e w' => e = .returned (.int .i64 (sum ls.flatten : Nat)) ∧ Below w.heap.size w w' := by
  subst hn
  have hb := (Below.refl w.heap.size w).alloc (Nat.le_refl _) (.cells vs 22)
  have hr := rows_new (w := w) vs 22 ls (0, 0) hsz h
  refine (sum_any _ _ ls.length ls _ hs hls (hT.out.below hb h0) (by simp) (by simpa using hr)).mono ?_
  rintro e w' ⟨rfl, hb'⟩
  exact ⟨rfl, hb.trans (hb'.mono (by simp))⟩
theorem sum_row1 (v : Value) (l : List Nat) (w : World) (hl : l.length ≤ 1048576) (hT : Hid (Tab w)) (h0 : 0 < w.heap.size) (h : BytesAt w w.heap.size v l) :
    Calls Tryd.prog 11 #[.slice (some ⟨w.heap.size, 0, none⟩) 1 1] (w.alloc (.cells #[v] 22)) fun e w' => e = .returned (.int .i64 (sum l : Nat)) ∧ Below w.heap.size w w' := by
  have := sum_rows 1 #[v] [l] w rfl rfl (by simp) (by simpa using hl) hT h0 (fun j hj u hu => by
    obtain rfl : j = 0 := by simpa using hj
    simp at hu; subst hu; exact h)
  simpa using this
theorem sum_row2 (v u : Value) (l m : List Nat) (w : World) (hl : l.length ≤ 1048576) (hm : m.length ≤ 1048576) (hT : Hid (Tab w)) (h0 : 0 < w.heap.size) (h : BytesAt w w.heap.size v l) (h' : BytesAt w w.heap.size u m) :
    Calls Tryd.prog 11 #[.slice (some ⟨w.heap.size, 0, none⟩) 2 2] (w.alloc (.cells #[v, u] 22)) fun e w' => e = .returned (.int .i64 (sum (l ++ m) : Nat)) ∧ Below w.heap.size w w' := by
  have := sum_rows 2 #[v, u] [l, m] w rfl rfl (by simp) (by simp [hl, hm]) hT h0 (fun j hj x hx => by
    match j, hj with
    | 0, _ => simp at hx; subst hx; exact h
    | 1, _ => simp at hx; subst hx; exact h')
  simpa using this

set_option maxHeartbeats 800000 in
theorem parts_out (A1 A2 : Option Addr) (n1 c1 n2 c2 : Nat) (w : World) (hT : Hid (Tab w)) (h0 : 0 < w.heap.size) (h : 300 < n1 ∨ 300 < n2) :
    Calls Tryd.prog 7 #[.slice A1 n1 c1, .slice A2 n2 c2] w (Yes w) := by
  by_cases h1 : 300 < n1
  · clear h
    go_enter Tryd.func7, Tryd.ntmps7
    go_wp2_with fail
    refine (awake_any _ hT h0).mono ?_
    rintro e w' ⟨rfl, hb⟩
    go_wp2
    go_ret
    exact ⟨rfl, hb⟩
  · have h2 : 300 < n2 := by omega
    clear h
    go_enter Tryd.func7, Tryd.ntmps7
    go_wp2_with fail
    refine (awake_any _ hT h0).mono ?_
    rintro e w' ⟨rfl, hb⟩
    go_wp2
    go_ret
    exact ⟨rfl, hb⟩

set_option maxHeartbeats 800000 in
theorem parts_in (A1 A2 : Option Addr) (n1 c1 n2 c2 : Nat) (l m : List Nat) (w : World) (hT : Hid (Tab w)) (h0 : 0 < w.heap.size) (h1 : n1 ≤ 300) (h2 : n2 ≤ 300) (e1 : l.length = n1) (e2 : m.length = n2)
    (b1 : Hid (BytesAt w w.heap.size (.slice A1 n1 c1) l)) (b2 : Hid (BytesAt w w.heap.size (.slice A2 n2 c2) m)) :
    Calls Tryd.prog 7 #[.slice A1 n1 c1, .slice A2 n2 c2] w (Yes w) := by
  have E1 := Lib.hid e1
  have E2 := Lib.hid e2
  clear e1 e2
  obtain ⟨x, hx⟩ : ∃ x, sum l = x := ⟨_, rfl⟩
  obtain ⟨y, hy⟩ : ∃ x, sum m = x := ⟨_, rfl⟩
  obtain ⟨z, hz⟩ : ∃ x, sum (l ++ m) = x := ⟨_, rfl⟩
  have hxl : x < 4294967296 := by rw [← hx]; exact sum_lt _ b1.out.1
  have hyl : y < 4294967296 := by rw [← hy]; exact sum_lt _ b2.out.1
  have hj : shifted x n2 ^^^ y = z := by rw [← hx, ← hy, ← hz, sum_join, E2.out]
  have S1 := Lib.hid hx
  have S2 := Lib.hid hy
  have S3 := Lib.hid hz
  have C4 := Lib.hid (fun W h => join_yes x y n2 W hxl hyl (by omega) h)
  have HJ := Lib.hid hj
  clear hx hy hz hj
  go_enter Tryd.func7, Tryd.ntmps7
  go_wp2_with fail
  refine (sum_row1 _ l w (by have := E1.out; omega) hT h0 b1.out).mono ?_
  rintro e w1 ⟨rfl, hb1⟩
  have HB1 := Lib.hid hb1
  have hs1 := hb1.size
  have hT1 : Hid (Tab w1) := hT.out.below hb1 h0
  clear hb1
  rw [S1.out]
  go_wp2_with fail
  refine (sum_row1 _ m w1 (by have := E2.out; omega) hT1 (by omega) ((b2.out.below HB1.out (Nat.le_refl _)).mono hs1)).mono ?_
  rintro e w2 ⟨rfl, hb2⟩
  have HB2 := Lib.hid (HB1.out.trans (hb2.mono hs1))
  have hs2 := hb2.size
  have hT2 : Hid (Tab w2) := hT1.out.below hb2 (by omega)
  clear hb2
  rw [S2.out]
  go_wp2_with fail
  refine (C4.out _ hT2).mono ?_
  rintro e w3 ⟨rfl, rfl⟩
  rw [HJ.out]
  go_wp2_with fail
  refine (sum_row2 _ _ l m w2 (by have := E1.out; omega) (by have := E2.out; omega) hT2 (by omega) ((b1.out.below HB2.out (Nat.le_refl _)).mono (by omega)) ((b2.out.below HB2.out (Nat.le_refl _)).mono (by omega))).mono ?_
  rintro e w4 ⟨rfl, hb4⟩
  have HB4 := Lib.hid (HB2.out.trans (hb4.mono (by omega)))
  have hs4 := hb4.size
  have hT4 : Hid (Tab w4) := hT2.out.below hb4 (by omega)
  clear hb4
  rw [S3.out]
  go_wp2_with fail
  refine (awake_any _ hT4 (by omega)).mono ?_
  rintro e w5 ⟨rfl, hb5⟩
  have HB5 := Lib.hid (HB4.out.trans (hb5.mono (by omega)))
  clear hb5
  go_wp2
  go_ret
  exact ⟨rfl, HB5.out⟩

theorem parts_any (A1 A2 : Option Addr) (n1 c1 n2 c2 : Nat) (l m : List Nat) (w : World) (hT : Hid (Tab w)) (h0 : 0 < w.heap.size) (e1 : l.length = n1) (e2 : m.length = n2)
    (b1 : BytesAt w w.heap.size (.slice A1 n1 c1) l) (b2 : BytesAt w w.heap.size (.slice A2 n2 c2) m) :
    Calls Tryd.prog 7 #[.slice A1 n1 c1, .slice A2 n2 c2] w (Yes w) := by
  by_cases h : 300 < n1 ∨ 300 < n2
  · exact parts_out A1 A2 n1 c1 n2 c2 w hT h0 h
  · exact parts_in A1 A2 n1 c1 n2 c2 l m w hT h0 (by omega) (by omega) e1 e2 b1 b2
end Go.Proofs.YtllbdbecenhomaaDoor

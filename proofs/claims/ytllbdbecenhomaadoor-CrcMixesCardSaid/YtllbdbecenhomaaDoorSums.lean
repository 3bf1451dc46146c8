/- The walk of CrcSums. -/
import Derived.Test.YtllbdbecenhomaaDoorParts
import Derived.Deep.RegionHeld3
namespace Go.Proofs.YtllbdbecenhomaaDoor
open Go.RowKit Go.Proofs.CrcMath

theorem keep_call {w W w' : World} (h : Below w.heap.size w W) (h' : Below W.heap.size W w') : Below w.heap.size w w' := h.trans (h'.mono h.size)
theorem keep_alloc {w W : World} (h : Below w.heap.size w W) (o : Obj) : Below w.heap.size w (W.alloc o) := h.alloc h.size o

/-- Sum of a row of byte slices that lies in a block of its own, in whatever world. -/
theorem sum_at (b n : Nat) (vs : Array Value) (ls : List (List Nat)) (W : World) (hn : n = ls.length) (hrow : W.heap[b]? = some (.cells vs 22 (0, 0))) (hsz : vs.size = ls.length) (hs : ls.length ≤ 1048576) (hls : ∀ l ∈ ls, l.length ≤ 1048576) (hT : Tab W) (h0 : 0 < W.heap.size)
    (h : ∀ j (h : j < ls.length) v, vs[j]? = some v → BytesAt W W.heap.size v ls[j]) :
    Calls Tryd.prog 11 #[.slice (some ⟨b, 0, none⟩) n n] W fun e w' => e = .returned (.int .i64 (sum ls.flatten : Nat)) ∧ Below W.heap.size W w' := by
  subst hn
  refine sum_any _ _ ls.length ls _ hs hls hT h0 ⟨rfl, fun _ => ⟨b, 0, rfl, (Array.getElem?_eq_some_iff.1 hrow).1, fun j hj => ⟨vs[j], ?_, h j hj _ (Array.getElem?_eq_getElem (by omega))⟩⟩⟩
  simp only [World.cell?, hrow, Nat.zero_add]
  exact Array.getElem?_eq_getElem (by omega)

theorem BytesAt.take {w : World} {B n c : Nat} {A : Option Addr} {l : List Nat} (h : BytesAt w B (.slice A n c) l) (k : Nat) (hk : k ≤ n) (c' : Nat) : BytesAt w B (.slice A k c') (l.take k) := by
  obtain ⟨h1, A', c1, e, h2⟩ := h
  injection e with e1 e2 e3
  subst e1; subst e2; subst e3
  refine ⟨fun x hx => h1 x (List.mem_of_mem_take hx), A, c', by simp [Nat.min_eq_left hk], fun hl => ?_⟩
  obtain ⟨b, off, rfl, hlt, hc⟩ := h2 (by simp at hl; omega)
  exact ⟨b, off, rfl, hlt, fun j hj => by rw [List.getElem_take]; exact hc j (by simp at hj; omega)⟩
theorem BytesAt.drop {w : World} {B n c : Nat} {A : Option Addr} {l : List Nat} (h : BytesAt w B (.slice A n c) l) (k : Nat) (hk : k ≤ n) (hc : n ≤ c) (c' : Nat) :
    BytesAt w B (.slice (if c = k then A else Option.map (fun x => x.add k) A) (n - k) c') (l.drop k) := by
  obtain ⟨h1, A', c1, e, h2⟩ := h
  injection e with e1 e2 e3
  subst e1; subst e2; subst e3
  refine ⟨fun x hx => h1 x (List.mem_of_mem_drop hx), (if c = k then A else Option.map (fun x => x.add k) A), c', by simp, fun hl => ?_⟩
  simp at hl
  obtain ⟨b, off, rfl, hlt, hcl⟩ := h2 (by omega)
  rw [if_neg (by omega)]
  refine ⟨b, off + k, ?_, hlt, fun j hj => ?_⟩
  · simp only [Option.map_some, Addr.add]
    split
    · rename_i h0; subst h0; rfl
    · rfl
  · rw [List.getElem_drop, Nat.add_assoc]; exact hcl (k + j) (by simp at hj; omega)
theorem heap_new (w : World) (o : Obj) : (w.alloc o).heap[w.heap.size]? = some o := by
  show (w.heap.push o)[w.heap.size]? = _
  simp

set_option maxHeartbeats 800000 in
theorem sums_in (A : Option Addr) (n c k : Nat) (l : List Nat) (w : World) (hT : Hid (Tab w)) (h0 : 0 < w.heap.size) (h1 : n ≤ 600) (h2 : k ≤ n) (h3 : n ≤ c) (e1 : l.length = n)
    (b1 : Hid (BytesAt w w.heap.size (.slice A n c) l)) :
    Calls Tryd.prog 3 #[.slice A n c, .int .i64 (k : Int)] w (Yes w) := by
  have E1 := Lib.hid e1
  clear e1
  have hk0 : (0 : Int) ≤ (k : Int) := by omega
  have hk1 : (k : Int) ≤ (n : Int) := by omega
  have hk2 : (k : Int) ≤ (c : Int) := by omega
  have hk3 : (n : Int) ≤ (c : Int) := by omega
  obtain ⟨A2, hA2⟩ : ∃ A2, (if c = k then A else Option.map (fun x => x.add k) A) = A2 := ⟨_, rfl⟩
  have C1 : ∀ W : World, Below w.heap.size w W → Calls Tryd.prog 11 #[.slice (some ⟨W.heap.size, 0, none⟩) 1 1] (W.alloc (.cells #[.slice A n c] 22)).drew fun e w' => e = .returned (.int .i64 (sum l : Nat)) ∧ Below w.heap.size w w' := fun W hW => by
    have ha := (Below.refl W.heap.size W).alloc (Nat.le_refl _) (.cells #[.slice A n c] 22)
    refine (sum_at W.heap.size 1 #[.slice A n c] [l] (W.alloc (.cells #[.slice A n c] 22)).drew rfl (heap_new W _) rfl (by simp) (by simp; have := E1.out; omega) (hT.out.below (Below.drew (hW.trans (ha.mono hW.size))) h0) (by simp) ?_).mono ?_
    · intro j hj v hv
      obtain rfl : j = 0 := by simpa using hj
      simp at hv; subst hv
      exact (b1.out.below (Below.drew (hW.trans (ha.mono hW.size))) (Nat.le_refl _)).mono (by have := hW.size; simp; omega)
    · rintro e w' ⟨rfl, hb⟩
      exact ⟨by simp, keep_call (Below.drew (hW.trans (ha.mono hW.size))) hb⟩
  have C2 : ∀ W : World, Below w.heap.size w W → Calls Tryd.prog 11 #[.slice (some ⟨W.heap.size, 0, none⟩) 3 3] (W.alloc (.cells #[.slice A k c, .slice none 0 0, .slice A2 (n - k) (c - k)] 22)) fun e w' => e = .returned (.int .i64 (sum l : Nat)) ∧ Below w.heap.size w w' := fun W hW => by
    have ha := (Below.refl W.heap.size W).alloc (Nat.le_refl _) (.cells #[.slice A k c, .slice none 0 0, .slice A2 (n - k) (c - k)] 22)
    have hb1 := (b1.out.below (hW.trans (ha.mono hW.size)) (Nat.le_refl _)).mono (B' := (W.alloc (.cells #[.slice A k c, .slice none 0 0, .slice A2 (n - k) (c - k)] 22)).heap.size) (by have := hW.size; simp; omega)
    refine (sum_at W.heap.size 3 #[.slice A k c, .slice none 0 0, .slice A2 (n - k) (c - k)] [l.take k, [], l.drop k] _ rfl (heap_new W _) rfl (by simp) (by simp; have := E1.out; omega) (hT.out.below (hW.trans (ha.mono hW.size)) h0) (by simp) ?_).mono ?_
    · intro j hj v hv
      match j, hj with
      | 0, _ => simp at hv; subst hv; exact hb1.take k h2 c
      | 1, _ => simp at hv; subst hv; exact BytesAt.nil_ _ _
      | 2, _ => simp at hv; subst hv; have hd := hb1.drop k h2 h3 (c - k); rw [hA2] at hd; exact hd
    · rintro e w' ⟨rfl, hb⟩
      exact ⟨by simp, keep_call (hW.trans (ha.mono hW.size)) hb⟩
  have C3 : ∀ W : World, Below w.heap.size w W → Calls Tryd.prog 9 #[] W fun e w' => e = .returned (.bool true) ∧ Below w.heap.size w w' := fun W hW =>
    (awake_any W (hT.out.below hW h0) (by have := hW.size; omega)).mono fun e w' ⟨he, hb⟩ => ⟨he, keep_call hW hb⟩
  go_enter Tryd.func3, Tryd.ntmps3
  go_wp2_with fail
  refine (refSum_any _ l _ w (by have := E1.out; omega) b1.out).mono ?_
  rintro e w1 ⟨rfl, rfl⟩
  obtain ⟨x, hx⟩ : ∃ x, sum l = x := ⟨_, rfl⟩
  rw [hx]
  rw [hx] at C1 C2
  have HC1 := Lib.hid C1
  have HC2 := Lib.hid C2
  have HC3 := Lib.hid C3
  clear hx C1 C2 C3
  go_wp2_with fail
  have hbw := Below.refl w.heap.size w
  go_region_held3 (fun W => Below w.heap.size w W) (first | exact Below.refl _ _ | assumption | exact Below.drew (by assumption) | exact keep_alloc (by assumption) _ | exact Below.drew (keep_alloc (by assumption) _))
    (first
     | (go_at_call 11; ((with_reducible refine (HC1.out _ hbw).mono ?_)); rintro e w2 ⟨rfl, hb2⟩)
     | (go_at_call 11; ((with_reducible refine (HC2.out _ (by assumption)).mono ?_)); rintro e w3 ⟨rfl, hb3⟩)
     | (go_at_call 9; ((with_reducible refine (HC3.out _ (by assumption)).mono ?_)); rintro e w4 ⟨rfl, hb4⟩))
  all_goals go_wp2
  all_goals go_ret
  all_goals exact ⟨rfl, by assumption⟩

set_option maxHeartbeats 800000 in
theorem sums_out (A : Option Addr) (n c : Nat) (k : Int) (w : World) (hT : Hid (Tab w)) (h0 : 0 < w.heap.size) (h : 600 < n ∨ k < 0 ∨ (n : Int) < k) :
    Calls Tryd.prog 3 #[.slice A n c, .int .i64 k] w (Yes w) := by
  by_cases h1 : 600 < n
  · clear h
    go_enter Tryd.func3, Tryd.ntmps3
    go_wp2_with fail
    refine (awake_any _ hT h0).mono ?_
    rintro e w' ⟨rfl, hb⟩
    go_wp2
    go_ret
    exact ⟨rfl, hb⟩
  · by_cases h2 : k < 0
    · clear h
      go_enter Tryd.func3, Tryd.ntmps3
      go_wp2_with fail
      refine (awake_any _ hT h0).mono ?_
      rintro e w' ⟨rfl, hb⟩
      go_wp2
      go_ret
      exact ⟨rfl, hb⟩
    · have h3 : (n : Int) < k := by omega
      clear h
      go_enter Tryd.func3, Tryd.ntmps3
      go_wp2_with fail
      refine (awake_any _ hT h0).mono ?_
      rintro e w' ⟨rfl, hb⟩
      go_wp2
      go_ret
      exact ⟨rfl, hb⟩

theorem sums_any (A : Option Addr) (n c : Nat) (k : Int) (l : List Nat) (w : World) (hT : Hid (Tab w)) (h0 : 0 < w.heap.size) (h3 : n ≤ c) (e1 : l.length = n) (b1 : BytesAt w w.heap.size (.slice A n c) l) :
    Calls Tryd.prog 3 #[.slice A n c, .int .i64 k] w (Yes w) := by
  by_cases h : 600 < n ∨ k < 0 ∨ (n : Int) < k
  · exact sums_out A n c k w hT h0 h
  · obtain ⟨j, rfl⟩ := Int.eq_ofNat_of_zero_le (show 0 ≤ k by omega)
    exact sums_in A n c j l w hT h0 (by omega) (by omega) h3 e1 b1
end Go.Proofs.YtllbdbecenhomaaDoor

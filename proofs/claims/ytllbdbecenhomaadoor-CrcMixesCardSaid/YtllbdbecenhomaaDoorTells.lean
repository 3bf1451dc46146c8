/- The walk of CrcTells. -/
import Derived.Test.YtllbdbecenhomaaDoorSums
import Derived.Deep.AppendLies
namespace Go.Proofs.YtllbdbecenhomaaDoor
open Go.RowKit Go.Proofs.CrcMath

theorem infoByte : (Tryd.prog.info? 5).map (fun i => (i.zero, i.size, i.bytes)) = some (some (.int .u8 0), 1, 1) := by kernel_rfl
def cellsOf (l : List Nat) : List Value := l.map fun x : Nat => Value.int .u8 (x : Int)
theorem cellsOf_one (l : List Nat) : ∀ u ∈ cellsOf l, u.oneCell' = true := by
  intro u hu
  obtain ⟨x, _, rfl⟩ := List.mem_map.1 hu
  rfl
/-- a row of the call's own reads as bytes -/
theorem bytes_own {w : World} {base e n cap g : Nat} {l : List Nat} (h : w.ownsRow base e 1 (.slice (some ⟨g, 0, none⟩) n cap) n (cellsOf l)) (hb : ∀ x ∈ l, x < 256) : BytesAt w w.heap.size (.slice (some ⟨g, 0, none⟩) n cap) l := by
  have hl : l.length = n := by have := h.1; simpa [cellsOf] using this
  refine ⟨hb, some ⟨g, 0, none⟩, cap, by rw [hl], fun h0 => ⟨g, 0, rfl, (h.lt g rfl).2, fun j hj => ?_⟩⟩
  rw [Nat.zero_add, h.cellAt j (by omega)]
  simp [cellsOf, hj]

set_option maxHeartbeats 800000 in
theorem tells_in (b off n c k x : Nat) (l : List Nat) (w : World) (hT : Hid (Tab w)) (h0 : 0 < w.heap.size) (h1 : n ≤ 600) (h2 : k < n) (e1 : l.length = n) (hx : x < 256)
    (b1 : Hid (BytesAt w w.heap.size (.slice (some ⟨b, off, none⟩) n c) l)) (hcl : Hid (∀ j (h : j < l.length), w.cell? ⟨b, off + j, none⟩ = some (.int .u8 ((l[j] : Nat) : Int)))) (hb : b < w.heap.size) :
    Calls Tryd.prog 5 #[.slice (some ⟨b, off, none⟩) n c, .int .i64 (k : Int), .int .u8 (x : Int)] w (Yes w) := by
  have E1 := Lib.hid e1
  obtain ⟨y, hy⟩ : ∃ y, l[k]'(by omega) = y := ⟨_, rfl⟩
  have hyl : y < 256 := by rw [← hy]; exact b1.out.1 _ (List.getElem_mem _)
  obtain ⟨s, hs⟩ : ∃ s, sum l = s := ⟨_, rfl⟩
  obtain ⟨t, ht⟩ : ∃ s, sum (l.set k x) = s := ⟨_, rfl⟩
  have hsl : s < 4294967296 := by rw [← hs]; exact sum_lt _ b1.out.1
  have hst : (((s : Int) == (t : Int)) == ((y : Int) == (x : Int))) = true := by
    have h := go_set l k x (by omega) b1.out.1 hx all all_lt
    have hh : decide (s = t) = decide (y = x) := by
      rw [decide_eq_decide, ← hs, ← ht, ← hy]
      unfold sum
      exact ⟨fun e => h.1 (xor_right_inj' e).symm, fun e => by rw [h.2 e]⟩
    rw [cast_beq, cast_beq, hh]; simp
  have hck : w.cell? ⟨b, off + k, none⟩ = some (.int .u8 (y : Int)) := by rw [← hy]; exact hcl.out k (by omega)
  have hset : ∀ z ∈ l.set k x, z < 256 := by
    intro z hz
    rcases List.mem_or_eq_of_mem_set hz with h | h
    · exact b1.out.1 _ h
    · omega
  have HS := Lib.hid hs
  have HT := Lib.hid ht
  have HK := Lib.hid hck
  have HSET := Lib.hid hset
  clear hs ht hy hck e1 hset
  obtain ⟨i0, hi, hz0, hz1, hz2⟩ := info_parts infoByte
  go_enter Tryd.func5, Tryd.ntmps5
  go_wp2_with (at_builtin; refine wpList_append_lies _ rfl _ _ 22 rfl 0 5 i0 (.int .u8 0) 1 1 Tryd.underlying22 hi hz0 hz1 hz2 rfl (by decide) _ _ _ rfl (World.ownsRow_nil _ _ _ _) ⟨b, off, none⟩ n c (cellsOf l) rfl ?c1 ?c2 (cellsOf_one l) ?c3 ?c4 ?c5 (Nat.zero_le _) _ rfl ?_)
  case c1 => simp [cellsOf]; exact E1.out
  case c2 =>
    intro j u hu
    rw [Addr.add_lit]
    simp [cellsOf] at hu
    obtain ⟨z, hz, rfl⟩ := hu
    obtain ⟨hj, hz⟩ := List.getElem?_eq_some_iff.1 hz
    rw [hcl.out j hj, hz]
  case c3 => omega
  case c4 => unfold maxLen; omega
  case c5 => omega
  intro g cap w1 hown hgrow hat hlt
  obtain rfl : g = w.heap.size := by
    rcases hat with h | h
    · cases h
    · exact h
  have hcell : w1.cell? ⟨w.heap.size, k, none⟩ = some (.int .u8 (y : Int)) := by
    rw [hown.cellAt k (by omega)]
    have h := HK.out
    rw [hcl.out k (by have := E1.out; omega)] at h
    simp [cellsOf, E1.out, h2]
    simpa using h
  have hfree := hown.frozenAt k
  have hB1 : Below w.heap.size w w1 := (Below.refl _ _).grown hgrow (Nat.le_refl _) (fun j hj => by cases hj)
  have hB2 : Below w.heap.size w (w1.setCell ⟨w.heap.size, k, none⟩ (.int .u8 (x : Int))) := hB1.setCell (p := ⟨w.heap.size, k, none⟩) (Nat.le_refl _) _
  have hown2 := (hown.stored k (.int .u8 (x : Int))).1
  rw [show (cellsOf l).set k (.int .u8 (x : Int)) = cellsOf (l.set k x) by simp [cellsOf]] at hown2
  have HB2 := Lib.hid hB2
  have HO2 := Lib.hid hown2
  clear hB2 hown2 hB1 hgrow hown hat
  obtain ⟨W2, hW2⟩ : ∃ W2, w1.setCell ⟨w.heap.size, k, none⟩ (.int .u8 (x : Int)) = W2 := ⟨_, rfl⟩
  go_wp2_with fail
  rw [hW2] at HB2 HO2
  clear hW2
  refine (sum_row1 _ l W2 (by have := E1.out; omega) (hT.out.below HB2.out h0) (by have := HB2.out.size; omega) ((b1.out.below HB2.out (Nat.le_refl _)).mono HB2.out.size)).mono ?_
  rintro e w3 ⟨rfl, hb3⟩
  rw [HS.out]
  have hown3 : w3.ownsRow 0 5 1 (.slice (some ⟨w.heap.size, 0, none⟩) n cap) n (cellsOf (l.set k x)) := HO2.out.kept (row := none) ⟨hb3.os, hb3.tape, hb3.output, hb3.size, fun i hi _ => hb3.block i hi⟩ (.inr (by simp [Value.ownBlock]))
  have hb4 : Below w.heap.size w w3 := keep_call HB2.out hb3
  have hc3 : w3.cell? ⟨b, off + k, none⟩ = some (.int .u8 (y : Int)) := (hb4.cell (p := ⟨b, off + k, none⟩) hb).trans HK.out
  have B3 : Hid (BytesAt w3 w3.heap.size (.slice (some ⟨w.heap.size, 0, none⟩) n cap) (l.set k x)) := bytes_own hown3 HSET.out
  have T3 : Hid (Tab w3) := hT.out.below hb4 h0
  have HB4 := Lib.hid hb4
  have h03 : 0 < w3.heap.size := by have := hb4.size; omega
  have C1 : Hid (∀ W : World, Below w3.heap.size w3 W → Calls Tryd.prog 11 #[.slice (some ⟨W.heap.size, 0, none⟩) 1 1] (W.alloc (.cells #[.slice (some ⟨w.heap.size, 0, none⟩) n cap] 22)).drew fun e w' => e = .returned (.int .i64 (t : Int)) ∧ Below w3.heap.size w3 w') := fun W hW => by
    have ha := (Below.refl W.heap.size W).alloc (Nat.le_refl _) (.cells #[.slice (some ⟨w.heap.size, 0, none⟩) n cap] 22)
    have ha2 := Below.drew (hW.trans (ha.mono hW.size))
    refine (sum_at W.heap.size 1 #[.slice (some ⟨w.heap.size, 0, none⟩) n cap] [l.set k x] (W.alloc (.cells #[.slice (some ⟨w.heap.size, 0, none⟩) n cap] 22)).drew rfl (heap_new W _) rfl (by simp) (by simp; have := E1.out; omega) (T3.out.below ha2 h03) (by simp) ?_).mono ?_
    · intro j hj v hv
      obtain rfl : j = 0 := by simpa using hj
      simp at hv; subst hv
      exact (B3.out.below ha2 (Nat.le_refl _)).mono (by have := hW.size; simp; omega)
    · rintro e w' ⟨rfl, hb⟩
      exact ⟨by simp [HT.out], keep_call ha2 hb⟩
  have C3 : Hid (∀ W : World, Below w3.heap.size w3 W → Calls Tryd.prog 9 #[] W fun e w' => e = .returned (.bool true) ∧ Below w3.heap.size w3 w') := fun W hW =>
    (awake_any W (T3.out.below hW h03) (by have := hW.size; omega)).mono fun e w' ⟨he, hb⟩ => ⟨he, keep_call hW hb⟩
  have HC : Hid (∀ W : World, Below w3.heap.size w3 W → W.cell? ⟨b, off + k, none⟩ = some (.int .u8 (y : Int))) := fun W hW => (hW.cell (p := ⟨b, off + k, none⟩) (by have := hb4.size; show b < _; omega)).trans hc3
  clear hb4 hb3 hown3 hc3
  have hbw := Below.refl w3.heap.size w3
  have hc3 := HC.out w3 hbw
  go_wp2_with fail
  go_region_held3 (fun W => Below w3.heap.size w3 W ∧ W.cell? ⟨b, off + k, none⟩ = some (.int .u8 (y : Int)))
    (first
      | exact ⟨Below.refl _ _, by assumption⟩
      | (refine (fun h => ⟨h, HC.out _ h⟩) ?_; first | assumption | exact Below.drew (by assumption) | exact keep_alloc (by assumption) _ | exact Below.drew (keep_alloc (by assumption) _)))
    (first
     | (go_at_call 11; ((with_reducible refine (C1.out _ hbw).mono ?_)); rintro e w4 ⟨rfl, hb4⟩)
     | (go_at_call 9; ((with_reducible refine (C3.out _ (by assumption)).mono ?_)); rintro e w5 ⟨rfl, hb5⟩))
  all_goals go_wp2
  all_goals go_ret
  all_goals exact ⟨rfl, keep_call HB4.out (by assumption)⟩

set_option maxHeartbeats 800000 in
theorem tells_out (A : Option Addr) (n c : Nat) (k x : Int) (w : World) (hT : Hid (Tab w)) (h0 : 0 < w.heap.size) (h : 600 < n ∨ k < 0 ∨ (n : Int) ≤ k) :
    Calls Tryd.prog 5 #[.slice A n c, .int .i64 k, .int .u8 x] w (Yes w) := by
  by_cases h1 : 600 < n
  · clear h
    go_enter Tryd.func5, Tryd.ntmps5
    go_wp2_with fail
    refine (awake_any _ hT h0).mono ?_
    rintro e w' ⟨rfl, hb⟩
    go_wp2
    go_ret
    exact ⟨rfl, hb⟩
  · by_cases h2 : k < 0
    · clear h
      go_enter Tryd.func5, Tryd.ntmps5
      go_wp2_with fail
      refine (awake_any _ hT h0).mono ?_
      rintro e w' ⟨rfl, hb⟩
      go_wp2
      go_ret
      exact ⟨rfl, hb⟩
    · have h3 : (n : Int) ≤ k := by omega
      clear h
      go_enter Tryd.func5, Tryd.ntmps5
      go_wp2_with fail
      refine (awake_any _ hT h0).mono ?_
      rintro e w' ⟨rfl, hb⟩
      go_wp2
      go_ret
      exact ⟨rfl, hb⟩

theorem tells_any (A : Option Addr) (n c : Nat) (k x : Int) (l : List Nat) (w : World) (hT : Hid (Tab w)) (h0 : 0 < w.heap.size) (e1 : l.length = n) (hx0 : 0 ≤ x) (hx : x ≤ 255) (b1 : BytesAt w w.heap.size (.slice A n c) l) :
    Calls Tryd.prog 5 #[.slice A n c, .int .i64 k, .int .u8 x] w (Yes w) := by
  by_cases h : 600 < n ∨ k < 0 ∨ (n : Int) ≤ k
  · exact tells_out A n c k x w hT h0 h
  · obtain ⟨j, rfl⟩ := Int.eq_ofNat_of_zero_le (show 0 ≤ k by omega)
    obtain ⟨y, rfl⟩ := Int.eq_ofNat_of_zero_le hx0
    have b2 := b1
    obtain ⟨_, A', c', e, hc⟩ := b1
    injection e with eA en ec
    obtain ⟨b, off, hA, hb, hcl⟩ := hc (by omega)
    subst eA; subst hA
    exact tells_in b off n c j y l w hT h0 (by omega) (by omega) e1 (by omega) b2 hcl hb
end Go.Proofs.YtllbdbecenhomaaDoor

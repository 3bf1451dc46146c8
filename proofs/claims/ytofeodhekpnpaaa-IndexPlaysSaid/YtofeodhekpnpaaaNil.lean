/- The walk of IndexNil. -/
import Derived.Test.YtofeodhekpnpaaaLoop0
namespace Go.Proofs.Ytofeodhekpnpaaa
open Go.RowKit Go.LawEnd Go.Shelf

attribute [local go_sem] Oper.semAt_some

theorem not_nil_func (x y : Option Addr) (W : World) : (binOp BinOp.eql 48 (.func (.func 35) #[] #[.pointer x, .pointer y]) Value.nilFunc).run Try.prog W = .ok (.bool false) W := by kernel_rfl

/-- what is known behind the loop -/
structure NS (w W : World) (D : Nat) (c d : Int) : Prop where
  k1 : W.cell? ⟨w.heap.size, 1, none⟩ = some (.int .i64 c)
  k2 : W.cell? ⟨w.heap.size, 2, none⟩ = some (.int .i64 d)
  r0 : W.cell? ⟨w.heap.size + 1, 0, none⟩ = some (.bool false)
  fr0 : W.frozen? ⟨w.heap.size + 1, 0, none⟩ = false
  below : Below w.heap.size w W
  dk : W.heap[D]? = some (.deferred (some []))
  lt : w.heap.size + 1 < W.heap.size
theorem NS.step {w W W' : World} {D : Nat} {c d : Int} (h : NS w W D c d) (hb : Below W.heap.size W W') : NS w W' D c d := by
  have hl := h.lt
  have e : ∀ i, W'.cell? ⟨w.heap.size, i, none⟩ = W.cell? ⟨w.heap.size, i, none⟩ := fun i => hb.cell (p := ⟨w.heap.size, i, none⟩) (by show w.heap.size < _; omega)
  refine ⟨(e 1).trans h.k1, (e 2).trans h.k2, (hb.cell (p := ⟨w.heap.size + 1, 0, none⟩) hl).trans h.r0, ?_, keep_call h.below hb, (hb.block D (lt_of_obj h.dk)).trans h.dk, Nat.lt_of_lt_of_le hl hb.size⟩
  exact (World.frozen?_of_block (w := W) (a := ⟨w.heap.size + 1, 0, none⟩) (hb.block (w.heap.size + 1) hl)).trans h.fr0

set_option maxRecDepth 100000 in
set_option maxHeartbeats 2000000 in
theorem nil_any (a c d : Int) (t : Bool) (w : World) :
    Calls Try.prog 8 #[.agg #[.int .i64 a, .int .i64 c, .int .i64 d, .bool t]] w (Yes w) := by
  have hnf := not_nil_func
  refine (callsIn_wide (n := 9)).1 ?_
  refine callsIn_of_wp_marks Try.func8 rfl trivial ?_ rfl
  simp only [Try.ntmps8, List.size_toArray, List.length_cons, List.length_nil, Nat.reduceAdd, Nat.reduceSub, Array.replicate_succ, Array.replicate_zero, List.push_toArray, List.append_toArray, List.nil_append, List.cons_append]
  gi_wp2_with (refine ⟨trivial, ?_⟩; gi_at_call 19; refine (callsIn_wide.2 (all_nil 0 9)).mono ?_; rintro e w' ⟨rfl, rfl⟩)
  obtain ⟨w4, hw4⟩ : ∃ y, y = (((w.alloc (.cells #[.int .i64 a, .int .i64 c, .int .i64 d, .bool t] 32)).alloc (.cells #[.bool false] 4)).alloc (.cells #[.int .i64 0, .int .i64 9] 46)).alloc (.cells #[.slice none 0 0] 51) := ⟨_, rfl⟩
  rw [← hw4]
  have hB4 : Below w.heap.size w w4 := by
    rw [hw4]
    exact ((((Below.refl _ w).alloc (Nat.le_refl _) _).alloc (by simp) _).alloc (by simp; omega) _).alloc (by simp; omega) _
  have hK1 : Blk w4 w.heap.size 32 #[.int .i64 a, .int .i64 c, .int .i64 d, .bool t] := by
    rw [hw4]; exact (((Blk.new w _ _).alloc _).alloc _).alloc _
  have hK2 : Blk w4 (w.heap.size + 1) 4 #[.bool false] := by
    rw [hw4]
    have := Blk.new (w.alloc (.cells #[.int .i64 a, .int .i64 c, .int .i64 d, .bool t] 32)) 4 #[.bool false]
    rw [World.size_alloc] at this
    exact (this.alloc _).alloc _
  have hK4 : Blk w4 (w.heap.size + 1 + 1 + 1) 51 #[.slice none 0 0] := by
    rw [hw4]
    have := Blk.new (((w.alloc (.cells #[.int .i64 a, .int .i64 c, .int .i64 d, .bool t] 32)).alloc (.cells #[.bool false] 4)).alloc (.cells #[.int .i64 0, .int .i64 9] 46)) 51 #[.slice none 0 0]
    simpa using this
  clear hw4
  refine wpIn_rangeFunc_ownF (α := Empty) rfl (by omega) (gf := 35) (lb := #[.pointer (some ⟨w.heap.size + 1 + 1 + 1, 0, none⟩), .pointer (some ⟨w.heap.size + 1 + 1, 0, none⟩)]) rfl trivial (enters_of Try.func35 (by kernel_rfl) rfl)
    (all1_stops _ _ _ w4 (by simpa using hK4.cell 0) hK4.lt (Below w.heap.size)) belowK_t (belowK_b hB4.size) (Below.refl _ _) (fun x => x.elim)
    (fun _ W => (W.cell? ⟨w.heap.size, 1, none⟩ = some (.int .i64 c) ∧ W.cell? ⟨w.heap.size, 2, none⟩ = some (.int .i64 d) ∧ W.cell? ⟨w.heap.size + 1, 0, none⟩ = some (.bool false) ∧ W.frozen? ⟨w.heap.size + 1, 0, none⟩ = false) ∧ Below w.heap.size w W)
    (fun _ _ _ => False)
    (OwnFrom.and (Own.from (fun s A B row hs hg hr => ⟨cell_kept hs.1 hg hr, cell_kept hs.2.1 hg hr, cell_kept hs.2.2.1 hg hr, (frozen_kept hs.2.2.1 hg hr).trans hs.2.2.2⟩) _) (ownFrom_below (Nat.le_refl _) hB4.size))
    (fun _ _ _ _ _ hs _ _ => hs)
    ⟨⟨by simpa using hK1.cell 1, by simpa using hK1.cell 2, by simpa using hK2.cell 0, hK2.frozen 0⟩, hB4⟩
    (fun x => x.elim) ?assign ?body ?done ?stop
  case assign => exact fun _ x => x.elim
  case body => exact fun _ _ x => x.elim
  case stop => exact fun _ _ _ _ _ h => h.elim
  case done =>
    rintro D ys W hD _ ⟨⟨k1, k2, r0, fr0⟩, hB⟩ hK
    have hlt : w.heap.size + 1 < W.heap.size := by have h1 := lt_of_obj hK; have h2 := hK2.lt; omega
    have hDl : w.heap.size + 1 < D := by have h2 := hK2.lt; omega
    have hDw : w.heap.size ≤ D := by omega
    have N0 := Lib.hid (NS.mk k1 k2 r0 fr0 hB hK hlt)
    clear r0 fr0 hB hK hB4 hK1 hK2 hK4 hlt
    gi_wp2_with fail
    refine ⟨trivial, ?_⟩
    refine (callsIn_wide.2 (put_nil c d false)).mono ?_
    rintro e W1 ⟨rfl, hb1⟩
    have N1 := Lib.hid (N0.out.step hb1)
    clear hb1 N0 k1 k2
    have k1 := N1.out.k1
    have k2 := N1.out.k2
    have l1 := N1.out.lt
    have l0 := Nat.lt_of_succ_lt l1
    gi_wp2_with fail
    obtain ⟨P1, hP1⟩ : ∃ y, y = W1.heap.size := ⟨_, rfl⟩
    obtain ⟨V1, hV1⟩ : ∃ y, y = W1.alloc (.cells #[.int .i64 0, .bool false] 35) := ⟨_, rfl⟩
    rw [← hV1, ← hP1]
    have A1 : Below W1.heap.size W1 V1 := by rw [hV1]; exact (Below.refl _ W1).alloc (Nat.le_refl _) _
    have B1 : Hid (Blk V1 P1 35 #[.int .i64 0, .bool false]) := by rw [hV1, hP1]; exact Blk.new _ _ _
    have M1 := Lib.hid (N1.out.step A1)
    clear hV1 hP1 A1 N1 k1 k2 l1 l0
    refine ⟨trivial, ?_⟩
    refine (callsIn_wide.2 (get_nil c)).mono ?_
    rintro e W2 ⟨rfl, hb2⟩
    have N2 := Lib.hid (M1.out.step hb2)
    have B1' := Lib.hid (B1.out.below hb2 B1.out.lt)
    clear B1 hb2 M1
    have B1 := B1'
    clear B1'
    have k1 := N2.out.k1
    have k2 := N2.out.k2
    have l1 := N2.out.lt
    have l0 := Nat.lt_of_succ_lt l1
    gi_wp2_with fail
    obtain ⟨P2, hP2⟩ : ∃ y, y = W2.heap.size := ⟨_, rfl⟩
    obtain ⟨V2, hV2⟩ : ∃ y, y = W2.alloc (.cells #[.int .i64 0, .bool false] 35) := ⟨_, rfl⟩
    rw [← hV2, ← hP2]
    have A2 : Below W2.heap.size W2 V2 := by rw [hV2]; exact (Below.refl _ W2).alloc (Nat.le_refl _) _
    have B2 : Hid (Blk V2 P2 35 #[.int .i64 0, .bool false]) := by rw [hV2, hP2]; exact Blk.new _ _ _
    have M2 := Lib.hid (N2.out.step A2)
    have B1' := Lib.hid (B1.out.below A2 B1.out.lt)
    clear B1
    have B1 := B1'
    clear B1'
    clear hV2 hP2 A2 N2 k1 k2 l1 l0
    refine ⟨trivial, ?_⟩
    refine (callsIn_wide.2 (drop_nil c)).mono ?_
    rintro e W3 ⟨rfl, hb3⟩
    have N3 := Lib.hid (M2.out.step hb3)
    have B1' := Lib.hid (B1.out.below hb3 B1.out.lt)
    have B2' := Lib.hid (B2.out.below hb3 B2.out.lt)
    clear B1 B2 hb3 M2
    have B1 := B1'
    have B2 := B2'
    clear B1' B2'
    have k1 := N3.out.k1
    have k2 := N3.out.k2
    have l1 := N3.out.lt
    have l0 := Nat.lt_of_succ_lt l1
    gi_wp2_with fail
    obtain ⟨P3, hP3⟩ : ∃ y, y = W3.heap.size := ⟨_, rfl⟩
    obtain ⟨V3, hV3⟩ : ∃ y, y = W3.alloc (.cells #[.int .i64 0, .bool false] 35) := ⟨_, rfl⟩
    rw [← hV3, ← hP3]
    have A3 : Below W3.heap.size W3 V3 := by rw [hV3]; exact (Below.refl _ W3).alloc (Nat.le_refl _) _
    have B3 : Hid (Blk V3 P3 35 #[.int .i64 0, .bool false]) := by rw [hV3, hP3]; exact Blk.new _ _ _
    have M3 := Lib.hid (N3.out.step A3)
    have B1' := Lib.hid (B1.out.below A3 B1.out.lt)
    clear B1
    have B1 := B1'
    clear B1'
    have B2' := Lib.hid (B2.out.below A3 B2.out.lt)
    clear B2
    have B2 := B2'
    clear B2'
    clear hV3 hP3 A3 N3 k1 k2 l1 l0
    refine ⟨trivial, ?_⟩
    refine (callsIn_wide.2 (at_nil d)).mono ?_
    rintro e W4 ⟨rfl, rfl⟩
    have k1 := M3.out.k1
    have k2 := M3.out.k2
    have b10 := B1.out.cell 0
    have b11 := B1.out.cell 1
    have b20 := B2.out.cell 0
    have b21 := B2.out.cell 1
    have b30 := B3.out.cell 0
    have b31 := B3.out.cell 1
    simp at b10 b11 b20 b21 b30 b31
    have p1 := B1.out.lt
    have p2 := B2.out.lt
    have p3 := B3.out.lt
    have l1 := M3.out.lt
    have l0 := Nat.lt_of_succ_lt l1
    gi_wp2_with fail
    obtain ⟨V4, hV4⟩ : ∃ y, y = V3.alloc (.cells #[.int .i64 0, .bool false] 35) := ⟨_, rfl⟩
    rw [← hV4]
    have N4 : Hid (NS w V4 D c d) := by rw [hV4]; exact M3.out.step ((Below.refl _ V3).alloc (Nat.le_refl _) _)
    clear hV4 M3 B1 B2 B3 b10 b11 b20 b21 b30 b31 p1 p2 p3 k1 k2 l1 l0
    refine ⟨trivial, ?_⟩
    refine (callsIn_wide.2 (clean_nil c)).mono ?_
    rintro e W5 ⟨rfl, hb5⟩
    have N5 := Lib.hid (N4.out.step hb5)
    clear hb5 N4
    gi_wp2_with fail
    refine ⟨trivial, ?_⟩
    refine (callsIn_wide.2 len_nil).mono ?_
    rintro e w' ⟨rfl, rfl⟩
    gi_wp2_with fail
    refine ⟨trivial, ?_⟩
    refine (callsIn_wide.2 dirty_nil).mono ?_
    rintro e w' ⟨rfl, rfl⟩
    gi_wp2_with fail
    refine ⟨trivial, ?_⟩
    refine (callsIn_wide.2 copy_nil).mono ?_
    rintro e w' ⟨rfl, rfl⟩
    gi_wp2_with fail
    refine ⟨trivial, ?_⟩
    refine (callsIn_wide.2 (awake_any _)).mono ?_
    rintro e W6 ⟨rfl, hb6⟩
    have N6 := Lib.hid (N5.out.step hb6)
    have r0 := N6.out.r0
    have fr0 := N6.out.fr0
    clear hb6 N5
    gi_wp2
    have hK7 : (W6.setCell ⟨w.heap.size + 1, 0, none⟩ (.bool true)).heap[D]? = some (.deferred (some [])) := (Below.heap_setCell W6 ⟨w.heap.size + 1, 0, none⟩ _ D (fun e => by have : D = w.heap.size + 1 := e; omega)).trans N6.out.dk
    have hc7 : (W6.setCell ⟨w.heap.size + 1, 0, none⟩ (.bool true)).cell? ⟨w.heap.size + 1, 0, none⟩ = some (.bool true) := World.cell?_setCell_same' _ _ _ (by rw [r0]; rfl)
    have hc8 := cell_kept hc7 (grownBy_putObj' (W6.setCell ⟨w.heap.size + 1, 0, none⟩ (.bool true)) D (.deferred none)) (fun r e => by cases e; exact ⟨_, hK7, rfl⟩)
    have hb7 : Below w.heap.size w (W6.setCell ⟨w.heap.size + 1, 0, none⟩ (.bool true)) := N6.out.below.setCell (p := ⟨w.heap.size + 1, 0, none⟩) (Nat.le_succ _) _
    refine ⟨by simp, .inl ⟨_, _, rfl, run_takeDeferred hK7, ?_⟩⟩
    refine ⟨.bool true, ?_, rfl, hb7.trans (belowK_b (w := w) (Nat.le_refl _) _ D _ _ hDw hK7 rfl rfl)⟩
    rw [results_cell_one rfl]
    go_simp
end Go.Proofs.Ytofeodhekpnpaaa

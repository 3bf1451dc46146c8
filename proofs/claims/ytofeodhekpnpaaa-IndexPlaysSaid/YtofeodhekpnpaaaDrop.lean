/- The walks of Drop and Clean. -/
import Derived.Test.YtofeodhekpnpaaaNils
namespace Go.Proofs.Ytofeodhekpnpaaa
open Go.RowKit Go.LawEnd

section
variable {w : World} {x b n slots : Nat} {g : Rowd} {l : List (Int × Bool)} {f : Int → Option Int}

theorem Idx.stored (h : Idx w x g b n l f slots) (i : Nat) (hi : i < l.length) (s : Int) (d : Bool) : Idx ((w.setCell ⟨g, i * 2, none⟩ (.int .i64 s)).setCell ⟨g, i * 2 + 1, none⟩ (.bool d)) x g b n (l.set i (s, d)) f slots ∧
    Ch (fun j => j = g ∨ j = b) w ((w.setCell ⟨g, i * 2, none⟩ (.int .i64 s)).setCell ⟨g, i * 2 + 1, none⟩ (.bool d)) := by
  have hc : Ch (fun j => j = g) w ((w.setCell ⟨g, i * 2, none⟩ (.int .i64 s)).setCell ⟨g, i * 2 + 1, none⟩ (.bool d)) :=
    ((Ch.refl (fun j => j = g) w).setCell (p := ⟨g, i * 2, none⟩) (.inl rfl) _).setCell (p := ⟨g, i * 2 + 1, none⟩) (.inl rfl) _
  refine ⟨⟨?_, ?_, h.map.ch hc (fun e => h.gb e.symm)⟩, hc.mono (fun k _ e => .inl e)⟩
  · have := h.head.ch hc h.xg
    simpa using this
  · have hs := (h.row.set_ (i * 2) (.int .i64 s)).set_ (i * 2 + 1) (.bool d)
    rw [← pcs_set_tl l g.tl i hi (s, d)]
    simpa using hs
theorem Idx.drew (h : Idx w x g b n l f slots) : Idx w.drew x g b n l f slots := ⟨h.head, h.row, h.map.of_block rfl⟩

/-- Drop of a block that is nowhere, or is not there. -/
theorem drop_no (i : Int) (e0 : Int) (h : Calls Try.prog 13 #[.pointer (some ⟨x, 0, none⟩), .int .i64 i] (w.alloc (.cells #[.int .i64 0, .bool false] 35)) fun e w' => e = .returned (.tuple #[.agg #[.int .i64 0, .bool false], .int .i64 e0]) ∧ Below (w.heap.size + 1) (w.alloc (.cells #[.int .i64 0, .bool false] 35)) w') (he : (e0 != 0) = true) :
    Calls Try.prog 21 #[.pointer (some ⟨x, 0, none⟩), .int .i64 i] w fun e w' => e = .returned (.tuple #[.agg #[.int .i64 0, .bool false], .int .i64 e0]) ∧ Below w.heap.size w w' := by
  go_enter Try.func21, Try.ntmps21
  go_wp2_with fail
  refine h.mono ?_
  rintro e w2 ⟨rfl, hb2⟩
  have K2 := (Blk.new w 35 #[.int .i64 0, .bool false]).below hb2 (Nat.lt_succ_self _)
  have k0 := K2.cell 0
  have k1 := K2.cell 1
  have q0 := K2.frozen 0
  have q1 := K2.frozen 1
  simp at k0 k1
  have hlt := K2.lt
  have HB : Hid (Below w.heap.size w w2) := ((Below.refl w.heap.size w).alloc (Nat.le_refl _) _).trans (hb2.mono (Nat.le_succ _))
  clear K2 hb2 h
  go_wp2
  refine bodyPost_ret (v := .tuple #[.agg #[.int .i64 0, .bool false], .int .i64 e0]) ?_ rfl ⟨rfl, ?_⟩
  · rw [results_cell_tmp rfl]; go_simp
  · exact ((HB.out.setCell (p := ⟨w.heap.size, 0, none⟩) (Nat.le_refl _) _).setCell (p := ⟨w.heap.size, 1, none⟩) (Nat.le_refl _) _).alloc (by have := HB.out.size; simpa using this) _

theorem clean_no (i : Int) (e0 : Int) (h : Calls Try.prog 13 #[.pointer (some ⟨x, 0, none⟩), .int .i64 i] w fun e w' => e = .returned (.tuple #[.agg #[.int .i64 0, .bool false], .int .i64 e0]) ∧ Below w.heap.size w w') (he : (e0 == 0) = false) :
    Calls Try.prog 18 #[.pointer (some ⟨x, 0, none⟩), .int .i64 i] w fun e w' => e = .returned (.int .i64 e0) ∧ Below w.heap.size w w' := by
  go_enter Try.func18, Try.ntmps18
  go_wp2_with fail
  refine h.mono ?_
  rintro e w2 ⟨rfl, hb2⟩
  have HB := Lib.hid (hb2.alloc hb2.size (.cells #[.int .i64 0, .bool false] 35))
  clear hb2 h
  go_wp2
  go_ret
  exact ⟨rfl, HB.out⟩

set_option maxHeartbeats 1600000 in
theorem clean_ok (i : Nat) (s : Int) (d : Bool) (hs : (s == -1) = false) (h : Hid (Idx w x g b n l f slots)) (hi : i < l.length) (he : l[i] = (s, d)) :
    Calls Try.prog 18 #[.pointer (some ⟨x, 0, none⟩), .int .i64 (i : Int)] w fun e w' => e = .returned (.int .i64 0) ∧ Idx w' x g b n (l.set i (s, false)) f slots ∧ Ch (fun j => j = g ∨ j = b) w w' := by
  go_enter Try.func18, Try.ntmps18
  go_wp2_with fail
  refine (get_some i s d hs h hi he).mono ?_
  rintro e w2 ⟨rfl, hb2⟩
  have HI2 := Lib.hid (h.out.below hb2 (Nat.le_refl _))
  have HB2 := Lib.hid hb2
  clear hb2
  go_upto_region 4 with (fail)
  obtain ⟨B, hB⟩ : ∃ y, y = w2.heap.size := ⟨_, rfl⟩
  obtain ⟨w3, hw3⟩ : ∃ y, y = w2.alloc (.cells #[.int .i64 s, .bool false] 35) := ⟨_, rfl⟩
  rw [← hw3, ← hB]
  have hI3 : Idx w3 x g b n l f slots := by rw [hw3]; exact HI2.out.below ((Below.refl _ w2).alloc (Nat.le_refl _) _) (Nat.le_refl _)
  have hK3 : Blk w3 B 35 #[.int .i64 s, .bool false] := by rw [hw3, hB]; exact Blk.new _ _ _
  have HB3 : Hid (Ch (fun j => j = g ∨ j = b) w w3) := by
    have h1 : Below w.heap.size w w3 := by rw [hw3]; exact HB2.out.alloc HB2.out.size _
    exact Ch.of_below h1 (Nat.le_refl _)
  obtain ⟨c0, g0, g1⟩ := hI3.facts i hi he
  have gf0 := hI3.row.frozen (i * 2)
  have gf1 := hI3.row.frozen (i * 2 + 1)
  have k0 := hK3.cell 0
  have k1 := hK3.cell 1
  simp at k0 k1
  have HI3 := Lib.hid hI3.drew
  clear hw3 hB hI3 hK3 HI2 HB2
  go_region
  all_goals go_wp2
  all_goals go_ret
  all_goals (
    have hst := HI3.out.stored i hi s false
    exact ⟨rfl, hst.1, HB3.out.trans ((Ch.drew (Ch.refl _ w3)).trans hst.2)⟩)

set_option maxHeartbeats 3200000 in
theorem drop_ok (i : Nat) (s : Int) (d : Bool) (h0 : 0 ≤ s) (h1 : s < slots) (h2 : slots ≤ 1024) (h : Hid (Idx w x g b n l f slots)) (hi : i < l.length) (he : l[i] = (s, d)) :
    Calls Try.prog 21 #[.pointer (some ⟨x, 0, none⟩), .int .i64 (i : Int)] w fun e w' => e = .returned (.tuple #[.agg #[.int .i64 s, .bool d], .int .i64 0]) ∧ Idx w' x g b n (l.set i (-1, false)) (era f s) slots ∧ Ch (fun j => j = g ∨ j = b) w w' := by
  have hs : (s == -1) = false := by rw [beq_eq_false_iff_ne]; omega
  go_enter Try.func21, Try.ntmps21
  go_wp2_with fail
  have hA1 : Below w.heap.size w (w.alloc (.cells #[.int .i64 0, .bool false] 35)) := (Below.refl _ w).alloc (Nat.le_refl _) _
  refine (get_some i s d hs (Lib.hid (h.out.below hA1 (Nat.le_refl _))) hi he).mono ?_
  rintro e w2 ⟨rfl, hb2⟩
  have hI2 := (h.out.below hA1 (Nat.le_refl _)).below hb2 (Nat.le_refl _)
  have hR2 := (Blk.new w 35 #[.int .i64 0, .bool false]).below hb2 (by simp)
  have hB2 : Below w.heap.size w w2 := hA1.trans (hb2.mono (by simp))
  clear hA1 hb2
  go_upto_region 4 with (fail)
  obtain ⟨B, hB⟩ : ∃ y, y = w2.heap.size := ⟨_, rfl⟩
  obtain ⟨w3, hw3⟩ : ∃ y, y = w2.alloc (.cells #[.int .i64 s, .bool d] 35) := ⟨_, rfl⟩
  rw [← hw3, ← hB]
  have A3 : Below w2.heap.size w2 w3 := by rw [hw3]; exact (Below.refl _ w2).alloc (Nat.le_refl _) _
  have hI3 := hI2.below A3 (Nat.le_refl _)
  have hR3 := hR2.below A3 hR2.lt
  have hK3 : Blk w3 B 35 #[.int .i64 s, .bool d] := by rw [hw3, hB]; exact Blk.new _ _ _
  have hBl : w.heap.size + 1 ≤ B := by have := hR2.lt; omega
  have HB3 := Lib.hid (hB2.trans (A3.mono hB2.size))
  have hm3 : Map w3.drew b n f := hI3.map.of_block rfl
  obtain ⟨w4, hdel, hat, hch, hsz⟩ := hm3.run_drop (t := 60) keyLaw Try.underlying60 Try.underlying3 0 (x := s) (WalkArith.wf_i64 (by omega))
  have c1 := hI3.head.cell 1
  have k0 := hK3.cell 0
  simp at c1 k0
  have hxb := hI3.xb
  have hgb := hI3.gb
  have hxg := hI3.xg
  have hBg : B ≠ g := fun e => by have := h.out.row.lt; omega
  have hBb : B ≠ b := fun e => by have := h.out.map.lt; omega
  have hrg : w.heap.size ≠ g := fun e => by have := h.out.row.lt; omega
  have hrb : w.heap.size ≠ b := fun e => by have := h.out.map.lt; omega
  have hc34 : Ch (fun j => j = g ∨ j = b) w3 w4 := ⟨hch.os, hch.tape, hch.output, hch.size, fun k hk hn => hch.block k hk (fun e => hn (.inr e))⟩
  have hI4 : Idx w4 x g b n l (era f s) slots := ⟨hI3.head.ch hc34 (fun e => e.elim hxg hxb), hI3.row.ch (S := fun j => j = b) ⟨hch.os, hch.tape, hch.output, hch.size, hch.block⟩ hgb, hat⟩
  have HI4 := Lib.hid hI4.drew
  have HK4 := Lib.hid (hK3.ch hc34 (fun e => e.elim hBg hBb))
  have HR4 := Lib.hid (hR3.ch hc34 (fun e => e.elim hrg hrb))
  have HC4 := Lib.hid ((Ch.of_below HB3.out (Nat.le_refl _)).trans hc34)
  have d0 := hI4.head.cell 0
  simp at d0
  have HNE := Lib.hid (And.intro hBg (And.intro hBb (And.intro hrg hrb)))
  clear hw3 hB hI2 hR2 hB2 A3 hI3 hR3 hK3 hm3 hat hch hsz hc34 hI4 hxb hgb hxg hBg hBb hrg hrb
  go_region
  clear hdel c1 k0
  go_upto_region 5 with (fail)
  go_region_with (first
    | (refine (none_any _).mono ?_; rintro e w5 ⟨rfl, hb5⟩; have HI5 := Lib.hid (HI4.out.below hb5 (Nat.le_refl _)); have HB5 := Lib.hid hb5; obtain ⟨e0, g0, g1⟩ := HI5.out.facts i hi he; have gf0 := HI5.out.row.frozen (i * 2); have gf1 := HI5.out.row.frozen (i * 2 + 1); clear hb5)
    | fail)
  all_goals (
    obtain ⟨w6, hw6⟩ : ∃ y, y = (w5.setCell ⟨g, i * 2, none⟩ (.int .i64 (-1))).setCell ⟨g, i * 2 + 1, none⟩ (.bool false) := ⟨_, rfl⟩
    rw [← hw6]
    have hst := HI5.out.stored i hi (-1) false
    rw [← hw6] at hst
    have hc45 : Ch (fun j => j = g ∨ j = b) w4 w5 := (Ch.drew (Ch.refl _ w4)).trans (Ch.of_below HB5.out (Nat.le_refl _))
    have hc46 := hc45.trans hst.2
    have hK6 := HK4.out.ch hc46 (fun e => e.elim HNE.out.1 HNE.out.2.1)
    have hR6 := HR4.out.ch hc46 (fun e => e.elim HNE.out.2.2.1 HNE.out.2.2.2)
    have HI6 := Lib.hid hst.1
    have HC6 := Lib.hid (HC4.out.trans hc46)
    have k0 := hK6.cell 0
    have k1 := hK6.cell 1
    have r0 := hR6.cell 0
    have r1 := hR6.cell 1
    have f0 := hR6.frozen 0
    have f1 := hR6.frozen 1
    simp at k0 k1 r0 r1
    clear hw6 hst hc45 hc46 hK6 hR6 HI5 HB5 e0 g0 g1 gf0 gf1 d0
    go_wp2
    refine bodyPost_ret (v := .tuple #[.agg #[.int .i64 s, .bool d], .int .i64 0]) ?_ rfl ⟨rfl, ?_⟩
    · rw [results_cell_tmp rfl]; go_simp
    · have hr : Ch (fun j => j = w.heap.size) w6 ((w6.setCell ⟨w.heap.size, 0, none⟩ (.int .i64 s)).setCell ⟨w.heap.size, 1, none⟩ (.bool d)) :=
        ((Ch.refl (fun j => j = w.heap.size) w6).setCell (p := ⟨w.heap.size, 0, none⟩) (.inl rfl) _).setCell (p := ⟨w.heap.size, 1, none⟩) (.inl rfl) _
      have hxw := h.out.head.lt
      have hgw := h.out.row.lt
      have hbw := h.out.map.lt
      refine ⟨HI6.out.ch hr (fun e => by omega) (fun e => by omega) (fun e => by omega), ?_⟩
      exact ⟨hr.os.trans HC6.out.os, hr.tape.trans HC6.out.tape, hr.output.trans HC6.out.output, Nat.le_trans HC6.out.size hr.size, fun k hk hn => (hr.block k (Nat.lt_of_lt_of_le hk HC6.out.size) (fun e => by omega)).trans (HC6.out.block k hk hn)⟩)
end
end Go.Proofs.Ytofeodhekpnpaaa

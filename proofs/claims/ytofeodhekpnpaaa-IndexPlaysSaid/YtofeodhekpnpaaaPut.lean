/- The walk of Put. -/
import Derived.Test.YtofeodhekpnpaaaGet
namespace Go.Proofs.Ytofeodhekpnpaaa
open Go.RowKit Go.LawEnd

section
variable {w : World} {x b n slots : Nat} {g : Rowd} {l : List (Int × Bool)} {f : Int → Option Int}
/-- the index, the argument's box at B, the result's at B + 1 -/
structure PI (w W : World) (x : Nat) (g : Rowd) (b n : Nat) (l : List (Int × Bool)) (f : Int → Option Int) (slots : Nat) (s : Int) (d : Bool) : Prop where
  idx : Idx W x g b n l f slots
  box : Blk W w.heap.size 35 #[.int .i64 s, .bool d]
  res : Blk W (w.heap.size + 1) 35 #[.int .i64 0, .bool false]
  below : Below w.heap.size w W
theorem PI.start (s : Int) (d : Bool) (h : Idx w x g b n l f slots) : PI w ((w.alloc (.cells #[.int .i64 s, .bool d] 35)).alloc (.cells #[.int .i64 0, .bool false] 35)) x g b n l f slots s d := by
  have hb : Below w.heap.size w ((w.alloc (.cells #[.int .i64 s, .bool d] 35)).alloc (.cells #[.int .i64 0, .bool false] 35)) := ((Below.refl _ w).alloc (Nat.le_refl _) _).alloc (by simp) _
  refine ⟨h.below hb (Nat.le_refl _), (Blk.new _ _ _).alloc _, ?_, hb⟩
  have := Blk.new (w.alloc (.cells #[.int .i64 s, .bool d] 35)) 35 #[.int .i64 0, .bool false]
  simpa using this
theorem PI.drewN {W : World} {s : Int} {d : Bool} (h : PI w W x g b n l f slots s d) (k : Nat) : PI w (W.drewN k) x g b n l f slots s d :=
  ⟨⟨h.idx.head, h.idx.row, h.idx.map.of_block rfl⟩, h.box, h.res, ⟨h.below.os, h.below.tape, h.below.output, h.below.size, h.below.block⟩⟩

theorem put_nil (i s : Int) (d : Bool) : Calls Try.prog 20 #[.pointer none, .int .i64 i, .agg #[.int .i64 s, .bool d]] w fun e w' => e = .returned (.tuple #[.agg #[.int .i64 0, .bool false], .int .i64 2]) ∧ Below w.heap.size w w' := by
  have hb := Lib.hid (((Below.refl w.heap.size w).alloc (Nat.le_refl _) (.cells #[.int .i64 s, .bool d] 35)).alloc (by simp) (.cells #[.int .i64 0, .bool false] 35))
  go_enter Try.func20, Try.ntmps20
  go_wp2_with fail
  refine (check_nil i).mono ?_
  rintro e w' ⟨rfl, rfl⟩
  go_wp2
  refine bodyPost_ret (v := .tuple #[.agg #[.int .i64 0, .bool false], .int .i64 2]) ?_ rfl ⟨rfl, hb.out⟩
  rw [results_cell_tmp rfl]; go_simp

set_option maxHeartbeats 1600000 in
theorem put_there (i : Nat) (s o : Int) (d : Bool) (h : Hid (Idx w x g b n l f slots)) (hi : i < l.length) (h0 : 0 ≤ s) (h1 : s < slots) (h2 : slots ≤ 1024) (hf : f s = some o) (ho : o ≠ (i : Int)) :
    Calls Try.prog 20 #[.pointer (some ⟨x, 0, none⟩), .int .i64 (i : Int), .agg #[.int .i64 s, .bool d]] w fun e w' => e = .returned (.tuple #[.agg #[.int .i64 0, .bool false], .int .i64 15]) ∧ Below w.heap.size w w' := by
  have HP := Lib.hid (PI.start s d h.out)
  go_enter Try.func20, Try.ntmps20
  go_wp2_with fail
  obtain ⟨w1, hw1⟩ : ∃ y, y = (w.alloc (.cells #[.int .i64 s, .bool d] 35)).alloc (.cells #[.int .i64 0, .bool false] 35) := ⟨_, rfl⟩
  rw [← hw1]
  rw [← hw1] at HP
  clear hw1
  refine (check_in i (Lib.hid HP.out.idx) hi).mono ?_
  rintro e w' ⟨rfl, rfl⟩
  have c1 := HP.out.idx.head.cell 1
  have c2 := HP.out.idx.head.cell 2
  have k0 := HP.out.box.cell 0
  have hlk : ∀ nq, (Instr.lookup 60 (.map (some b)) (.int .i64 s) true).run Try.prog (w1.drewN nq) = .ok (.tuple #[.int .i64 o, .bool true]) (w1.drewN nq) := fun nq => by
    have := look_at (Lib.hid (HP.out.drewN nq).idx) h0 h1 h2
    rw [hf] at this
    exact this
  have r0 := HP.out.res.cell 0
  have r1 := HP.out.res.cell 1
  have fr0 := HP.out.res.frozen 0
  have fr1 := HP.out.res.frozen 1
  simp at c1 c2 k0 r0 r1
  go_wp2_with fail
  go_quiet (fail)
  go_wp2
  go_quiet (fail)
  go_wp2
  refine bodyPost_ret (v := .tuple #[.agg #[.int .i64 0, .bool false], .int .i64 15]) ?_ rfl ⟨rfl, ?_⟩
  · rw [results_cell_tmp rfl]; go_simp
  · refine Below.setCell (Below.setCell (HP.out.drewN _).below ?_ _) ?_ _ <;> exact Nat.le_succ _

theorem PI.step {W W' : World} {s : Int} {d : Bool} (h : PI w W x g b n l f slots s d) (hb : Below W.heap.size W W') : PI w W' x g b n l f slots s d :=
  ⟨h.idx.below hb (Nat.le_refl _), h.box.below hb h.box.lt, h.res.below hb h.res.lt, h.below.trans (hb.mono h.below.size)⟩

theorem Ch.setBlock {S : Nat → Prop} {a w : World} (h : Ch S a w) {c : Nat} (hp : S c) (o : Obj) : Ch S a (ChangeMaps.setBlock w c o) := h.setObj (.inl hp) o
theorem cell_setBlock {w : World} {c : Nat} {o : Obj} {p : Addr} (hp : p.block ≠ c) : (ChangeMaps.setBlock w c o).cell? p = w.cell? p := World.cell?_of_block (by show (w.heap.setIfInBounds c o)[p.block]? = _; rw [Array.getElem?_setIfInBounds_ne (Ne.symm hp)])
theorem frozen_setBlock {w : World} {c : Nat} {o : Obj} {p : Addr} (hp : p.block ≠ c) : (ChangeMaps.setBlock w c o).frozen? p = w.frozen? p := World.frozen?_of_block (by show (w.heap.setIfInBounds c o)[p.block]? = _; rw [Array.getElem?_setIfInBounds_ne (Ne.symm hp)])
theorem heap_setBlock_at {w : World} {c : Nat} {o o' : Obj} (h : w.heap[c]? = some o') : (ChangeMaps.setBlock w c o).heap[c]? = some o := (MapKept.heap_set h).1
theorem heap_cells2 {w : World} {g c i : Nat} {u v : Value} (h : c ≠ g) : ((w.setCell ⟨g, i, none⟩ u).setCell ⟨g, i + 1, none⟩ v).heap[c]? = w.heap[c]? :=
  (Below.heap_setCell _ ⟨g, i + 1, none⟩ v c h).trans (Below.heap_setCell w ⟨g, i, none⟩ u c h)

theorem blk_setBlock {w : World} {g c : Nat} {t : TypeId} {cs : Array Value} {o : Obj} (h : Blk w g t cs) (hne : g ≠ c) : Blk (ChangeMaps.setBlock w c o) g t cs := by
  unfold Blk at h ⊢
  show (w.heap.setIfInBounds c o)[g]? = _
  rw [Array.getElem?_setIfInBounds_ne (Ne.symm hne)]; exact h

set_option maxHeartbeats 3200000 in
theorem put_ok (i : Nat) (s s0 : Int) (d d0 : Bool) (h : Hid (Idx w x g b n l f slots)) (hi : i < l.length) (he : l[i] = (s0, d0)) (h0 : 0 ≤ s) (h1 : s < slots) (h2 : slots ≤ 1024) (hs0 : -1 ≤ s0) (hs1 : s0 < slots) (hf : f s = none ∨ f s = some (i : Int)) (hn : n < maxLen) (hl : l.length ≤ 4096) :
    Calls Try.prog 20 #[.pointer (some ⟨x, 0, none⟩), .int .i64 (i : Int), .agg #[.int .i64 s, .bool d]] w fun e w' => e = .returned (.tuple #[.agg #[.int .i64 s0, .bool d0], .int .i64 0]) ∧ Idx w' x g b (n + 1) (l.set i (s, d)) (upd (era f s0) s (i : Int)) slots ∧ Ch (fun j => j = g ∨ j = b) w w' := by
  have HP := Lib.hid (PI.start s d h.out)
  go_enter Try.func20, Try.ntmps20
  go_wp2_with fail
  obtain ⟨w1, hw1⟩ : ∃ y, y = (w.alloc (.cells #[.int .i64 s, .bool d] 35)).alloc (.cells #[.int .i64 0, .bool false] 35) := ⟨_, rfl⟩
  rw [← hw1]
  rw [← hw1] at HP
  clear hw1
  refine (check_in i (Lib.hid HP.out.idx) hi).mono ?_
  rintro e w' ⟨rfl, rfl⟩
  obtain ⟨c0, g0, g1⟩ := HP.out.idx.facts i hi he
  have c1 := HP.out.idx.head.cell 1
  have c2 := HP.out.idx.head.cell 2
  have k0 := HP.out.box.cell 0
  obtain ⟨o, is, hlk, his⟩ : ∃ o is, (∀ nq, (Instr.lookup 60 (.map (some b)) (.int .i64 s) true).run Try.prog (w1.drewN nq) = .ok (.tuple #[.int .i64 o, .bool is]) (w1.drewN nq)) ∧ (is = true → (o != (i : Int)) = false) := by
    refine ⟨(f s).getD 0, (f s).isSome, fun nq => look_at (Lib.hid (HP.out.drewN nq).idx) h0 h1 h2, ?_⟩
    rcases hf with hf | hf <;> simp [hf]
  simp at c1 c2 k0
  go_wp2_with fail
  go_quiet (fail)
  go_wp2
  go_quiet (fail)
  cases is
  case' true => have hoi := his rfl
  all_goals clear his
  all_goals (
    go_upto_region 9 with (fail)
    generalize hw2 : w1.drewN _ = w2
    have HP2 : Hid (PI w w2 x g b n l f slots s d) := by rw [← hw2]; exact HP.out.drewN _
    clear hw2 hlk c0 g0 g1 c1 c2 k0 HP
    obtain ⟨c0, g0, g1⟩ := HP2.out.idx.facts i hi he
    go_upto_region 10 with (fail)
    obtain ⟨B, hB⟩ : ∃ y, y = w2.heap.size := ⟨_, rfl⟩
    obtain ⟨w3, hw3⟩ : ∃ y, y = w2.alloc (.cells #[.int .i64 s0, .bool d0] 35) := ⟨_, rfl⟩
    rw [← hw3, ← hB]
    have HP3 : Hid (PI w w3 x g b n l f slots s d) := by rw [hw3]; exact HP2.out.step ((Below.refl _ w2).alloc (Nat.le_refl _) _)
    have HO3 : Hid (Blk w3 B 35 #[.int .i64 s0, .bool d0]) := by rw [hw3, hB]; exact Blk.new _ _ _
    have hBl : w.heap.size + 2 ≤ B := by rw [hB]; have := HP2.out.res.lt; omega
    clear hw3 hB HP2 c0 g0 g1
    have hm3 : Map w3.drew b n f := HP3.out.idx.map.of_block rfl
    obtain ⟨w4, hdel, hat, hch, hsz⟩ := hm3.run_drop (t := 60) keyLaw Try.underlying60 Try.underlying3 0 (x := s0) (WalkArith.wf_i64 (by omega))
    have c1 := HP3.out.idx.head.cell 1
    have o0 := HO3.out.cell 0
    simp at c1 o0
    have HD4 : Hid (Map w4 b n (era f s0) ∧ Ch (fun j => j = b) w3.drew w4) := ⟨hat, hch⟩
    clear hat hch hsz hm3
    go_region)
  all_goals (
    have hgb := HP3.out.idx.gb
    have hxb := HP3.out.idx.xb
    have hxg := HP3.out.idx.xg
    have hC4 : Ch (fun j => j = g ∨ j = b) w3 w4 := by
      have h1 := HD4.out.2
      exact ⟨h1.os, h1.tape, h1.output, h1.size, fun k hk hn => h1.block k hk (fun e => hn (.inr e))⟩
    have hrow4 : Blk w4 g 35 (pcs l ++ g.tl).toArray := HP3.out.idx.row.ch (S := fun j => j = b) ⟨HD4.out.2.os, HD4.out.2.tape, HD4.out.2.output, HD4.out.2.size, HD4.out.2.block⟩ hgb
    have hbg : w.heap.size ≠ g := fun e => by have := h.out.row.lt; omega
    have hbb : w.heap.size ≠ b := fun e => by have := h.out.map.lt; omega
    have hrg : w.heap.size + 1 ≠ g := fun e => by have := h.out.row.lt; omega
    have hrb : w.heap.size + 1 ≠ b := fun e => by have := h.out.map.lt; omega
    have hBg : B ≠ g := fun e => by have := h.out.row.lt; omega
    have hBb : B ≠ b := fun e => by have := h.out.map.lt; omega
    have SF : Hid (∀ W : World, Ch (fun j => j = g ∨ j = b) w4 W → W.cell? ⟨x, 0, none⟩ = some (.slice (some ⟨g, 0, none⟩) l.length g.cap) ∧ W.cell? ⟨x, 1, none⟩ = some (.map (some b)) ∧ W.cell? ⟨w.heap.size, 0, none⟩ = some (.int .i64 s) ∧ W.cell? ⟨w.heap.size, 1, none⟩ = some (.bool d)) := fun W hW => by
      have hc := hC4.trans hW
      have hx' := HP3.out.idx.head.ch hc (fun e => e.elim hxg hxb)
      have hb' := HP3.out.box.ch hc (fun e => e.elim hbg hbb)
      exact ⟨by simpa using hx'.cell 0, by simpa using hx'.cell 1, by simpa using hb'.cell 0, by simpa using hb'.cell 1⟩
    have SG : Hid (∀ W : World, Ch (fun j => j = g ∨ j = b) w4 W → W.cell? ⟨B, 0, none⟩ = some (.int .i64 s0) ∧ W.cell? ⟨B, 1, none⟩ = some (.bool d0) ∧ W.cell? ⟨w.heap.size + 1, 0, none⟩ = some (.int .i64 0) ∧ W.cell? ⟨w.heap.size + 1, 1, none⟩ = some (.bool false) ∧ W.frozen? ⟨w.heap.size + 1, 0, none⟩ = false ∧ W.frozen? ⟨w.heap.size + 1, 1, none⟩ = false) := fun W hW => by
      have hc := hC4.trans hW
      have ho' := HO3.out.ch hc (fun e => e.elim hBg hBb)
      have hr' := HP3.out.res.ch hc (fun e => e.elim hrg hrb)
      exact ⟨by simpa using ho'.cell 0, by simpa using ho'.cell 1, by simpa using hr'.cell 0, by simpa using hr'.cell 1, hr'.frozen 0, hr'.frozen 1⟩
    obtain ⟨v0, st, o1, o2, E1, E2, E3⟩ := HD4.out.1.run_entry (t := 60) keyLaw Try.underlying60 Try.underlying3 Try.underlying3 zeroInt hn (x := s) (v := (i : Int)) (WalkArith.wf_i64 (by omega)) (WalkArith.wf_i64 (by omega))
    obtain ⟨es4, ck4, hob⟩ := HD4.out.1.obj
    have ha1 : ((w4.setCell ⟨g, i * 2, none⟩ (.int .i64 s)).setCell ⟨g, i * 2 + 1, none⟩ (.bool d)).drew.heap[b]? = w4.heap[b]? := heap_cells2 (w := w4) hgb.symm
    have e2 := E1 _ ha1
    have s1 := E2 (ChangeMaps.setBlock ((w4.setCell ⟨g, i * 2, none⟩ (.int .i64 s)).setCell ⟨g, i * 2 + 1, none⟩ (.bool d)).drew b o1) (heap_setBlock_at (ha1.trans hob))
    simp only [goInt] at e2 s1
    have hpg := pcs_get_tl l g.tl i hi
    rw [he] at hpg
    have g0 : w4.cell? ⟨g, i * 2, none⟩ = some (.int .i64 s0) := by rw [hrow4.cell, List.getElem?_toArray]; exact hpg.1
    have g1 : w4.cell? ⟨g, i * 2 + 1, none⟩ = some (.bool d0) := by rw [hrow4.cell, List.getElem?_toArray]; exact hpg.2
    have gf0 := hrow4.frozen (i * 2)
    have gf1 := hrow4.frozen (i * 2 + 1)
    have H5 : Hid (∃ w5, w5 = ChangeMaps.setBlock (ChangeMaps.setBlock ((w4.setCell ⟨g, i * 2, none⟩ (.int .i64 s)).setCell ⟨g, i * 2 + 1, none⟩ (.bool d)).drew b o1) b o2 ∧ Blk w5 g 35 (pcs (l.set i (s, d)) ++ g.tl).toArray ∧ Map w5 b (n + 1) (upd (era f s0) s (i : Int)) ∧ Ch (fun j => j = g ∨ j = b) w4 w5) := by
      refine ⟨_, rfl, ?_, E3 _ (heap_setBlock_at (heap_setBlock_at (ha1.trans hob))), ?_⟩
      · have hs := (hrow4.set_ (i * 2) (.int .i64 s)).set_ (i * 2 + 1) (.bool d)
        have hp := pcs_set_tl l g.tl i hi (s, d)
        rw [← hp]
        have hs' : Blk ((w4.setCell ⟨g, i * 2, none⟩ (.int .i64 s)).setCell ⟨g, i * 2 + 1, none⟩ (.bool d)) g 35 (((pcs l ++ g.tl).set (i * 2) (.int .i64 s)).set (i * 2 + 1) (.bool d)).toArray := by simpa using hs
        exact blk_setBlock (blk_setBlock (w := ((w4.setCell ⟨g, i * 2, none⟩ (.int .i64 s)).setCell ⟨g, i * 2 + 1, none⟩ (.bool d)).drew) hs' hgb) hgb
      · exact Ch.setBlock (Ch.setBlock (Ch.drew (((Ch.refl (fun j => j = g ∨ j = b) w4).setCell (p := ⟨g, i * 2, none⟩) (.inl (.inl rfl)) _).setCell (p := ⟨g, i * 2 + 1, none⟩) (.inl (.inl rfl)) _)) (.inr rfl) _) (.inr rfl) _
    have HR4 := Lib.hid hrow4
    have HC4 := Lib.hid hC4
    have HBB := Lib.hid (And.intro hbg (And.intro hbb (And.intro hrg (And.intro hrb (And.intro hgb (And.intro hxb hxg))))))
    clear E1 E2 E3 hob ha1 hpg hrow4 hC4 hbg hbb hrg hrb hBg hBb hgb hxb hxg
    go_wp2_with fail
    go_region_held3 (fun W => W.cell? ⟨x, 0, none⟩ = some (.slice (some ⟨g, 0, none⟩) l.length g.cap) ∧ W.cell? ⟨x, 1, none⟩ = some (.map (some b)) ∧ W.cell? ⟨w.heap.size, 0, none⟩ = some (.int .i64 s) ∧ W.cell? ⟨w.heap.size, 1, none⟩ = some (.bool d))
      (first | (refine SF.out _ ?_; repeat' (first | exact Ch.refl _ _ | refine Ch.drew ?_ | refine Ch.setBlock ?_ (.inr rfl) _ | refine Ch.setCell ?_ (.inl (.inl rfl)) _)) | assumption | fail)
      (fail)
    obtain ⟨w5, hw5, hrow5, hmap5, hch5⟩ := H5.out
    rw [← hw5]
    have hc := HC4.out.trans hch5
    obtain ⟨o0, o1', r0, r1, fr0, fr1⟩ := SG.out w5 hch5
    have HI5 : Hid (Idx w5 x g b (n + 1) (l.set i (s, d)) (upd (era f s0) s (i : Int)) slots) := by
      refine ⟨?_, hrow5, hmap5⟩
      have := HP3.out.idx.head.ch hc (fun e => e.elim HBB.out.2.2.2.2.2.2 HBB.out.2.2.2.2.2.1)
      simpa using this
    have HC5 : Hid (Ch (fun j => j = g ∨ j = b) w w5) := (Ch.of_below HP3.out.below (Nat.le_refl _)).trans hc
    have HLx := HP3.out.res.lt
    clear hw5 hrow5 hmap5 hch5 hc H5 SG SF e2 s1 hdel c1 g0 g1 gf0 gf1
    go_wp2
    refine bodyPost_ret (v := .tuple #[.agg #[.int .i64 s0, .bool d0], .int .i64 0]) ?_ rfl ⟨rfl, ?_⟩
    · rw [results_cell_tmp rfl]; go_simp
    · have hr : Ch (fun j => j = w.heap.size + 1) w5 ((w5.setCell ⟨w.heap.size + 1, 0, none⟩ (.int .i64 s0)).setCell ⟨w.heap.size + 1, 1, none⟩ (.bool d0)) :=
        ((Ch.refl (fun j => j = w.heap.size + 1) w5).setCell (p := ⟨w.heap.size + 1, 0, none⟩) (.inl rfl) _).setCell (p := ⟨w.heap.size + 1, 1, none⟩) (.inl rfl) _
      have hxw := h.out.head.lt
      have hgw := h.out.row.lt
      have hbw := h.out.map.lt
      refine ⟨HI5.out.ch hr (fun e => by omega) (fun e => by omega) (fun e => by omega), ?_⟩
      exact ⟨hr.os.trans HC5.out.os, hr.tape.trans HC5.out.tape, hr.output.trans HC5.out.output, Nat.le_trans HC5.out.size hr.size, fun k hk hn => (hr.block k (Nat.lt_of_lt_of_le hk HC5.out.size) (fun e => by omega)).trans (HC5.out.block k hk hn)⟩)
end
end Go.Proofs.Ytofeodhekpnpaaa

/- The walk of does. -/
import Derived.Test.YtofeodhekpnpaaaDoes2
namespace Go.Proofs.Ytofeodhekpnpaaa
open Go.RowKit Go.LawEnd

/-- what does comes to -/
def Did (w : World) (x : Nat) (g : Rowd) (b n slots len B : Nat) (e : Ending) (w' : World) : Prop := ∃ v, e = .returned (.bool v) ∧ St w' x g b (n + 1) slots len ∧ Ch (fun j => j = g ∨ j = b ∨ B ≤ j) w w'
theorem St.chB {w w' : World} {x b n slots len : Nat} {g : Rowd} {S : Nat → Prop} (h : St w x g b n slots len) (hc : Ch S w w') (hx : ¬ S x) (hg : ¬ S g) (hb : ¬ S b) : St w' x g b n slots len := by
  obtain ⟨l, f, hi, hok, hl⟩ := h
  exact ⟨l, f, hi.ch hc hx hg hb, hok, hl⟩

theorem St.mono {w : World} {x b n m slots len : Nat} {g : Rowd} (h : St w x g b n slots len) (hm : n ≤ m) : St w x g b m slots len := by
  obtain ⟨l, f, hi, hok, hl⟩ := h
  exact ⟨l, f, ⟨hi.head, hi.row, hi.map.mono hm⟩, hok, hl⟩

section
variable {w : World} {x b n slots B r k sl2 : Nat} {g : Rowd} {l : List (Int × Bool)} {f : Int → Option Int} {vS vD : Value}
set_option maxRecDepth 100000 in
set_option maxHeartbeats 1600000 in
theorem does_put (i s : Int) (t : Bool) (h : Hid (Idx w x g b n l f slots)) (hok : Ok slots l f) (hl : l.length ≤ 4096) (h2 : slots ≤ 1024) (hn : n < maxLen) (hr : Hid (RI B w r k sl2 vS vD (List.replicate k (-1)) (List.replicate k false))) (hk : k ≤ 4096)
    (hx : x < B) (hg : g < B) (hb : b < B) (hB : B ≤ w.heap.size) :
    Calls Try.prog 11 #[.pointer (some ⟨x, 0, none⟩), .pointer (some ⟨r, 0, none⟩), .agg #[.int .i64 0, .int .i64 i, .int .i64 s, .bool t]] w (Did w x g b n slots l.length B) := by
  have HOK := Lib.hid hok
  go_enter Try.func11, Try.ntmps11
  go_wp2_with fail
  obtain ⟨w1, hw1⟩ : ∃ y, y = w.alloc (.cells #[.int .i64 0, .int .i64 i, .int .i64 s, .bool t] 32) := ⟨_, rfl⟩
  rw [← hw1]
  have A1 : Below w.heap.size w w1 := by rw [hw1]; exact (Below.refl _ w).alloc (Nat.le_refl _) _
  have hK1 : Blk w1 w.heap.size 32 #[.int .i64 0, .int .i64 i, .int .i64 s, .bool t] := by rw [hw1]; exact Blk.new _ _ _
  have hI1 := h.out.below A1 (Nat.le_refl _)
  have hR1 := hr.out.below A1 (Nat.le_refl _)
  have hC1 : Ch (fun j => j = g ∨ j = b ∨ B ≤ j) w w1 := Ch.of_below A1 (Nat.le_refl _)
  clear hw1
  refine (put_st i s t (Lib.hid hI1) hok hl h2 hn).mono ?_
  rintro e w2 ⟨p1, q1, e1, rfl, hst2, hch2⟩
  have hK2 := hK1.ch hch2 (fun e => by rcases e with e | e <;> omega)
  have hR2 := hR1.chB hch2 (fun j e => by rcases e with rfl | rfl <;> assumption)
  have HC2 := Lib.hid (hC1.trans (hch2.mono (fun j _ e => e.elim .inl (fun e => .inr (.inl e)))))
  have k1 := hK2.cell 1
  have k2 := hK2.cell 2
  have k3 := hK2.cell 3
  simp at k1 k2 k3
  have hl2 := hK2.lt
  have HS2 := Lib.hid hst2
  have HR2 := Lib.hid hR2
  clear A1 hK1 hI1 hR1 hC1 hst2 hch2 hR2 hK2
  go_wp2_with fail
  obtain ⟨P, hP⟩ : ∃ y, y = w2.heap.size := ⟨_, rfl⟩
  obtain ⟨w3, hw3⟩ : ∃ y, y = w2.alloc (.cells #[.int .i64 p1, .bool q1] 35) := ⟨_, rfl⟩
  rw [← hw3, ← hP]
  have A3 : Below w2.heap.size w2 w3 := by rw [hw3]; exact (Below.refl _ w2).alloc (Nat.le_refl _) _
  have hK3 : Blk w3 P 35 #[.int .i64 p1, .bool q1] := by rw [hw3, hP]; exact Blk.new _ _ _
  have hR3 := HR2.out.below A3 (Nat.le_refl _)
  have C23 : Ch (fun j => j = g ∨ j = b ∨ B ≤ j) w2 w3 := Ch.of_below A3 (Nat.le_refl _)
  have HC3 := Lib.hid (HC2.out.trans C23)
  obtain ⟨l2, f2, i2, o2, n2⟩ := HS2.out
  have HS3 : Hid (St w3 x g b (n + 1) slots l.length) := ⟨l2, f2, i2.below A3 (Nat.le_refl _), o2, n2⟩
  clear hw3 hP A3 C23 i2 o2 n2 HS2 HC2 HR2 k1 k2 k3 hl2
  refine (ref_put_st i s t (Lib.hid hR3) hk).mono ?_
  rintro e w4 ⟨p4, q4, e4, rfl, hb4, hc4⟩
  have hK4 := hK3.ch hc4 (fun e => by
    rcases e with e | e
    · rcases own_far hR3.rowS hK3 (by decide) with a | a
      · rw [a] at e; cases e
      · exact a e
    · rcases own_far hR3.rowD hK3 (by decide) with a | a
      · rw [a] at e; cases e
      · exact a e)
  have C34 : Ch (fun j => B ≤ j) w3 w4 := ⟨hb4.os, hb4.tape, hb4.output, hb4.size, fun j _ hj => hb4.block j (by omega)⟩
  have HS4 := Lib.hid (HS3.out.chB C34 (by omega) (by omega) (by omega))
  have HC4 := Lib.hid (HC3.out.trans (C34.mono (fun j _ e => .inr (.inr e))))
  have q0 := hK4.cell 0
  have q1' := hK4.cell 1
  simp at q0 q1'
  clear hK3 hR3 hb4 hc4 hK4 C34 HS3 HC3
  go_wp2_with fail
  refine (place_any p1 q1 e1 p4 q4 e4 w4).mono ?_
  rintro e w5 ⟨rfl, hb5⟩
  obtain ⟨vv, hvv⟩ : ∃ y, y = ((e1 == e4) && (q1 == q4) && (p1 == p4)) := ⟨_, rfl⟩
  rw [← hvv]
  obtain ⟨l4, f4, i4, o4, n4⟩ := HS4.out
  have HS5 : Hid (St w5 x g b (n + 1) slots l.length) := ⟨l4, f4, i4.below hb5 (Nat.le_refl _), o4, n4⟩
  have HC5 := Lib.hid (HC4.out.trans (Ch.of_below hb5 (Nat.le_refl _)))
  clear hb5 i4 o4 n4 HS4 HC4 hvv
  go_wp2
  go_ret
  exact ⟨_, rfl, HS5.out, HC5.out⟩

set_option maxRecDepth 100000 in
set_option maxHeartbeats 1600000 in
theorem does_drop (i s : Int) (t : Bool) (h : Hid (Idx w x g b n l f slots)) (hok : Ok slots l f) (h2 : slots ≤ 1024) (hr : Hid (RI B w r k sl2 vS vD (List.replicate k (-1)) (List.replicate k false)))
    (hg : g < B) (hb : b < B) (hB : B ≤ w.heap.size) :
    Calls Try.prog 11 #[.pointer (some ⟨x, 0, none⟩), .pointer (some ⟨r, 0, none⟩), .agg #[.int .i64 1, .int .i64 i, .int .i64 s, .bool t]] w (Did w x g b n slots l.length B) := by
  have HOK := Lib.hid hok
  go_enter Try.func11, Try.ntmps11
  go_wp2_with fail
  obtain ⟨w1, hw1⟩ : ∃ y, y = w.alloc (.cells #[.int .i64 1, .int .i64 i, .int .i64 s, .bool t] 32) := ⟨_, rfl⟩
  rw [← hw1]
  have A1 : Below w.heap.size w w1 := by rw [hw1]; exact (Below.refl _ w).alloc (Nat.le_refl _) _
  have hK1 : Blk w1 w.heap.size 32 #[.int .i64 1, .int .i64 i, .int .i64 s, .bool t] := by rw [hw1]; exact Blk.new _ _ _
  have hI1 := h.out.below A1 (Nat.le_refl _)
  have hR1 := hr.out.below A1 (Nat.le_refl _)
  have hC1 : Ch (fun j => j = g ∨ j = b ∨ B ≤ j) w w1 := Ch.of_below A1 (Nat.le_refl _)
  clear hw1
  refine (drop_st i (Lib.hid hI1) hok h2).mono ?_
  rintro e w2 ⟨p1, q1, e1, rfl, hst2', hch2⟩
  have hst2 := hst2'.mono (Nat.le_succ n)
  clear hst2'
  have hK2 := hK1.ch hch2 (fun e => by rcases e with e | e <;> omega)
  have hR2 := hR1.chB hch2 (fun j e => by rcases e with rfl | rfl <;> assumption)
  have HC2 := Lib.hid (hC1.trans (hch2.mono (fun j _ e => e.elim .inl (fun e => .inr (.inl e)))))
  have k1 := hK2.cell 1
  simp at k1
  have hl2 := hK2.lt
  have HS2 := Lib.hid hst2
  have HR2 := Lib.hid hR2
  clear A1 hK1 hI1 hR1 hC1 hst2 hch2 hR2 hK2
  go_wp2_with fail
  obtain ⟨P, hP⟩ : ∃ y, y = w2.heap.size := ⟨_, rfl⟩
  obtain ⟨w3, hw3⟩ : ∃ y, y = w2.alloc (.cells #[.int .i64 p1, .bool q1] 35) := ⟨_, rfl⟩
  rw [← hw3, ← hP]
  have A3 : Below w2.heap.size w2 w3 := by rw [hw3]; exact (Below.refl _ w2).alloc (Nat.le_refl _) _
  have hK3 : Blk w3 P 35 #[.int .i64 p1, .bool q1] := by rw [hw3, hP]; exact Blk.new _ _ _
  have hR3 := HR2.out.below A3 (Nat.le_refl _)
  have C23 : Ch (fun j => j = g ∨ j = b ∨ B ≤ j) w2 w3 := Ch.of_below A3 (Nat.le_refl _)
  have HC3 := Lib.hid (HC2.out.trans C23)
  obtain ⟨l2, f2, i2, o2, n2⟩ := HS2.out
  have HS3 : Hid (St w3 x g b (n + 1) slots l.length) := ⟨l2, f2, i2.below A3 (Nat.le_refl _), o2, n2⟩
  clear hw3 hP A3 C23 i2 o2 n2 HS2 HC2 HR2 k1 hl2
  refine (ref_drop_st i (Lib.hid hR3)).mono ?_
  rintro e w4 ⟨p4, q4, e4, rfl, rfl⟩
  have hK4 := hK3
  have HS4 := HS3
  have HC4 := HC3
  have q0 := hK4.cell 0
  have q1' := hK4.cell 1
  simp at q0 q1'
  clear hK3 hR3 hK4 HS3 HC3
  go_wp2_with fail
  refine (place_any p1 q1 e1 p4 q4 e4 w3).mono ?_
  rintro e w5 ⟨rfl, hb5⟩
  obtain ⟨vv, hvv⟩ : ∃ y, y = ((e1 == e4) && (q1 == q4) && (p1 == p4)) := ⟨_, rfl⟩
  rw [← hvv]
  obtain ⟨l4, f4, i4, o4, n4⟩ := HS4.out
  have HS5 : Hid (St w5 x g b (n + 1) slots l.length) := ⟨l4, f4, i4.below hb5 (Nat.le_refl _), o4, n4⟩
  have HC5 := Lib.hid (HC4.out.trans (Ch.of_below hb5 (Nat.le_refl _)))
  clear hb5 i4 o4 n4 HS4 HC4 hvv
  go_wp2
  go_ret
  exact ⟨_, rfl, HS5.out, HC5.out⟩

set_option maxRecDepth 100000 in
set_option maxHeartbeats 1600000 in
theorem does_clean (a i s : Int) (t : Bool) (ha0 : (a == 0) = false) (ha1 : (a == 1) = false) (h : Hid (Idx w x g b n l f slots)) (hok : Ok slots l f) (hr : Hid (RI B w r k sl2 vS vD (List.replicate k (-1)) (List.replicate k false)))
    (hg : g < B) (hb : b < B) (hB : B ≤ w.heap.size) :
    Calls Try.prog 11 #[.pointer (some ⟨x, 0, none⟩), .pointer (some ⟨r, 0, none⟩), .agg #[.int .i64 a, .int .i64 i, .int .i64 s, .bool t]] w (Did w x g b n slots l.length B) := by
  have A1 : Below w.heap.size w (w.alloc (.cells #[.int .i64 a, .int .i64 i, .int .i64 s, .bool t] 32)).drew := Below.drew ((Below.refl _ w).alloc (Nat.le_refl _) _)
  have HK1 : Hid (Blk (w.alloc (.cells #[.int .i64 a, .int .i64 i, .int .i64 s, .bool t] 32)).drew w.heap.size 32 #[.int .i64 a, .int .i64 i, .int .i64 s, .bool t]) := Blk.new _ _ _
  have HI1 := Lib.hid (h.out.below A1 (Nat.le_refl _))
  have HR1 := Lib.hid (hr.out.below A1 (Nat.le_refl _))
  have HC1 : Hid (Ch (fun j => j = g ∨ j = b ∨ B ≤ j) w (w.alloc (.cells #[.int .i64 a, .int .i64 i, .int .i64 s, .bool t] 32)).drew) := Ch.of_below A1 (Nat.le_refl _)
  have HOK := Lib.hid hok
  clear A1 h hr hok
  go_enter Try.func11, Try.ntmps11
  go_wp2
  go_region_with (first
    | (go_at_call 18; refine (clean_st i HI1 HOK.out).mono ?_; rintro e w2 ⟨e1, rfl, hst2, hch2⟩; have HK2 := Lib.hid (HK1.out.ch hch2 (fun e => by rcases e with e | e <;> omega)); have HR2 := Lib.hid (HR1.out.chB hch2 (fun j e => by rcases e with rfl | rfl <;> assumption)); have HC2 := Lib.hid (HC1.out.trans (hch2.mono (fun j _ e => e.elim .inl (fun e => .inr (.inl e))))); have HS2 := Lib.hid hst2; have k1 := HK2.out.cell 1; simp at k1; clear hst2 hch2)
    | (go_at_call 28; refine (ref_clean_st i HR2).mono ?_; rintro e w3 ⟨e2, rfl, rfl⟩)
    | fail)
  all_goals go_wp2
  all_goals go_ret
  all_goals exact ⟨_, rfl, HS2.out.mono (Nat.le_succ n), HC2.out⟩
theorem does_any (a i s : Int) (t : Bool) (h : Hid (Idx w x g b n l f slots)) (hok : Ok slots l f) (hl : l.length ≤ 4096) (h2 : slots ≤ 1024) (hn : n < maxLen) (hr : Hid (RI B w r k sl2 vS vD (List.replicate k (-1)) (List.replicate k false))) (hk : k ≤ 4096)
    (hx : x < B) (hg : g < B) (hb : b < B) (hB : B ≤ w.heap.size) :
    Calls Try.prog 11 #[.pointer (some ⟨x, 0, none⟩), .pointer (some ⟨r, 0, none⟩), .agg #[.int .i64 a, .int .i64 i, .int .i64 s, .bool t]] w (Did w x g b n slots l.length B) := by
  by_cases h0 : a = 0
  · subst h0; exact does_put i s t h hok hl h2 hn hr hk hx hg hb hB
  · by_cases h1 : a = 1
    · subst h1; exact does_drop i s t h hok h2 hr hg hb hB
    · exact does_clean a i s t (by simpa using h0) (by simpa using h1) h hok hr hg hb hB
end
end Go.Proofs.Ytofeodhekpnpaaa

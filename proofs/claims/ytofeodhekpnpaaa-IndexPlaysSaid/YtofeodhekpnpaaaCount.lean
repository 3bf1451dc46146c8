/- The walks of Len and Dirty. -/
import Derived.Test.YtofeodhekpnpaaaDrop
namespace Go.Proofs.Ytofeodhekpnpaaa
open Go.RowKit Go.LawEnd

def some_ (p : Int × Bool) : Bool := !(p.1 == -1 && !p.2)
def dirt_ (p : Int × Bool) : Bool := p.2
theorem lenf_none (w : World) : Calls Try.prog 31 #[.agg #[.int .i64 (-1), .bool false]] w fun e w' => e = .returned (.bool (some_ (-1, false))) ∧ Below w.heap.size w w' := by
  have hA : Below w.heap.size w (w.alloc (.cells #[.int .i64 (-1), .bool false] 35)).drew := Below.drew ((Below.refl _ w).alloc (Nat.le_refl _) _)
  have HA := Lib.hid hA
  have hk : ∀ W : World, Below (w.heap.size + 1) (w.alloc (.cells #[.int .i64 (-1), .bool false] 35)) W → W.cell? ⟨w.heap.size, 0, none⟩ = some (.int .i64 (-1)) ∧ W.cell? ⟨w.heap.size, 1, none⟩ = some (.bool false) := fun W hW => by
    have := (Blk.new w 35 #[.int .i64 (-1), .bool false]).below hW (Nat.lt_succ_self _)
    exact ⟨by simpa using this.cell 0, by simpa using this.cell 1⟩
  have HK := Lib.hid hk
  clear hA hk
  go_enter Try.func31, Try.ntmps31
  go_wp2
  go_region_with (first
    | (refine (none_any _).mono ?_; rintro e w2 ⟨rfl, hb2⟩; obtain ⟨k0, k1⟩ := HK.out w2 ((Below.drew (Below.refl _ _)).trans (hb2.mono (by simp))); have HZ := Lib.hid (keep_call HA.out hb2); clear hb2)
    | fail)
  all_goals go_wp2
  all_goals go_ret
  all_goals exact ⟨rfl, HZ.out⟩
theorem lenf_some (s : Int) (d : Bool) (hs : (s == -1) = false) (w : World) : Calls Try.prog 31 #[.agg #[.int .i64 s, .bool d]] w fun e w' => e = .returned (.bool (some_ (s, d))) ∧ Below w.heap.size w w' := by
  have hA : Below w.heap.size w (w.alloc (.cells #[.int .i64 s, .bool d] 35)).drew := Below.drew ((Below.refl _ w).alloc (Nat.le_refl _) _)
  have HA := Lib.hid hA
  have hk : ∀ W : World, Below (w.heap.size + 1) (w.alloc (.cells #[.int .i64 s, .bool d] 35)) W → W.cell? ⟨w.heap.size, 0, none⟩ = some (.int .i64 s) ∧ W.cell? ⟨w.heap.size, 1, none⟩ = some (.bool d) := fun W hW => by
    have := (Blk.new w 35 #[.int .i64 s, .bool d]).below hW (Nat.lt_succ_self _)
    exact ⟨by simpa using this.cell 0, by simpa using this.cell 1⟩
  have HK := Lib.hid hk
  have HV : Hid (some_ (s, d) = true) := by show _ = _; simp [some_, hs]
  clear hA hk
  go_enter Try.func31, Try.ntmps31
  go_wp2
  go_region_with (first
    | (refine (none_any _).mono ?_; rintro e w2 ⟨rfl, hb2⟩; obtain ⟨k0, k1⟩ := HK.out w2 ((Below.drew (Below.refl _ _)).trans (hb2.mono (by simp))); have HZ := Lib.hid (keep_call HA.out hb2); clear hb2)
    | fail)
  all_goals go_wp2
  all_goals go_ret
  all_goals exact ⟨by rw [HV.out]; rfl, HZ.out⟩
theorem dirtyf (s : Int) (d : Bool) (w : World) : Calls Try.prog 32 #[.agg #[.int .i64 s, .bool d]] w fun e w' => e = .returned (.bool (dirt_ (s, d))) ∧ Below w.heap.size w w' := by
  have hA := Lib.hid ((Below.refl w.heap.size w).alloc (Nat.le_refl _) (.cells #[.int .i64 s, .bool d] 35))
  go_enter Try.func32, Try.ntmps32
  go_wp2
  go_ret
  exact ⟨rfl, hA.out⟩

section
variable {w : World} {x b n slots : Nat} {g : Rowd} {l : List (Int × Bool)} {f : Int → Option Int}
structure CI (w wr : World) (x : Nat) (g : Rowd) (b n : Nat) (l : List (Int × Bool)) (f : Int → Option Int) (slots k : Nat) : Prop where
  idx : Idx wr x g b n l f slots
  below : Below w.heap.size w wr

set_option maxHeartbeats 1600000 in
theorem count_len (h : Hid (Idx w x g b n l f slots)) (hl : l.length ≤ 4096) (hf : Hid (∀ p, p ∈ l → ∀ W : World, Calls Try.prog 31 #[.agg #[.int .i64 p.1, .bool p.2]] W fun e W' => e = .returned (.bool (some_ p)) ∧ Below W.heap.size W W')) :
    Calls Try.prog 30 #[.pointer (some ⟨x, 0, none⟩), .func (.func 31) #[] #[]] w fun e w' => e = .returned (.int .i64 ((l.filter some_).length : Int)) ∧ Below w.heap.size w w' := by
  have c0 := h.out.head.cell 0
  simp at c0
  go_enter Try.func30, Try.ntmps30
  go_wp2
  go_loopw [5, 15] (fun m i wr => ∃ k : Nat, k ≤ l.length ∧ i = .int .i64 k ∧ m = .int .i64 (((l.take k).filter some_).length : Int) ∧ CI w wr x g b n l f slots k) (fun _ i _ => l.length - (intOf i).toNat)
  case atStart => exact ⟨0, by omega, rfl, by simp, h.out, Below.refl _ _⟩
  case round =>
    obtain ⟨k, hk, rfl, rfl, HI⟩ := hrel
    have HIX := Lib.hid HI.idx
    have HBX := Lib.hid HI.below
    clear HI
    by_cases hkl : k < l.length
    · obtain ⟨s, d, hp⟩ : ∃ s d, l[k] = (s, d) := ⟨_, _, rfl⟩
      obtain ⟨d0, g0, g1⟩ := HIX.out.facts k hkl hp
      have hC := fun W => hf.out (s, d) (hp ▸ List.getElem_mem hkl) W
      have HC := Lib.hid hC
      have hlg : (l.take k).length ≤ k := by simp; omega
      have hfl := List.length_filter_le some_ (l.take k)
      have HT : Hid (((l.take (k + 1)).filter some_).length = ((l.take k).filter some_).length + (if some_ (s, d) then 1 else 0)) := by
        show _ = _
        rw [List.take_succ_eq_append_getElem hkl, List.filter_append, List.length_append, hp]
        by_cases hb : some_ (s, d) = true <;> simp [hb]
      obtain ⟨m, hm⟩ : ∃ m, ((l.take k).filter some_).length = m := ⟨_, rfl⟩
      rw [hm] at HT hfl ⊢
      have hm4 : m ≤ 4096 := by omega
      clear hm hfl hlg hC
      go_wp2_with fail
      refine (HC.out _).mono ?_
      rintro e w2 ⟨rfl, hb2⟩
      have hA : Below wr.heap.size wr (wr.alloc (.cells #[.int .i64 s, .bool d] 35)) := (Below.refl _ wr).alloc (Nat.le_refl _) _
      have hZ : Below wr.heap.size wr w2 := hA.trans (hb2.mono (by simp))
      have HI2 : Hid (CI w w2 x g b n l f slots (k + 1)) := ⟨HIX.out.below hZ (Nat.le_refl _), HBX.out.trans (hZ.mono HBX.out.size)⟩
      clear hA hZ hb2 HC HIX HBX d0 g0 g1
      obtain ⟨bt, hbt⟩ : ∃ y, y = some_ (s, d) := ⟨_, rfl⟩
      rw [← hbt]
      rw [← hbt] at HT
      clear hbt
      cases bt
      · go_wp2
        go_roundw
        case rel => exact ⟨k + 1, by omega, by go_num, by rw [HT.out]; rfl, HI2.out⟩
        case measure => simp [intOf]; omega
      · go_wp2
        go_roundw
        case rel => exact ⟨k + 1, by omega, by go_num, by rw [HT.out]; go_num, HI2.out⟩
        case measure => simp [intOf]; omega
    · have hkl2 : l.take k = l := List.take_of_length_le (by omega)
      rw [hkl2]
      clear hkl2
      go_wp2
      go_ret
      exact ⟨rfl, HBX.out⟩

set_option maxHeartbeats 1600000 in
theorem count_dirty (h : Hid (Idx w x g b n l f slots)) (hl : l.length ≤ 4096) (hf : Hid (∀ p, p ∈ l → ∀ W : World, Calls Try.prog 32 #[.agg #[.int .i64 p.1, .bool p.2]] W fun e W' => e = .returned (.bool (dirt_ p)) ∧ Below W.heap.size W W')) :
    Calls Try.prog 30 #[.pointer (some ⟨x, 0, none⟩), .func (.func 32) #[] #[]] w fun e w' => e = .returned (.int .i64 ((l.filter dirt_).length : Int)) ∧ Below w.heap.size w w' := by
  have c0 := h.out.head.cell 0
  simp at c0
  go_enter Try.func30, Try.ntmps30
  go_wp2
  go_loopw [5, 15] (fun m i wr => ∃ k : Nat, k ≤ l.length ∧ i = .int .i64 k ∧ m = .int .i64 (((l.take k).filter dirt_).length : Int) ∧ CI w wr x g b n l f slots k) (fun _ i _ => l.length - (intOf i).toNat)
  case atStart => exact ⟨0, by omega, rfl, by simp, h.out, Below.refl _ _⟩
  case round =>
    obtain ⟨k, hk, rfl, rfl, HI⟩ := hrel
    have HIX := Lib.hid HI.idx
    have HBX := Lib.hid HI.below
    clear HI
    by_cases hkl : k < l.length
    · obtain ⟨s, d, hp⟩ : ∃ s d, l[k] = (s, d) := ⟨_, _, rfl⟩
      obtain ⟨d0, g0, g1⟩ := HIX.out.facts k hkl hp
      have hC := fun W => hf.out (s, d) (hp ▸ List.getElem_mem hkl) W
      have HC := Lib.hid hC
      have hlg : (l.take k).length ≤ k := by simp; omega
      have hfl := List.length_filter_le dirt_ (l.take k)
      have HT : Hid (((l.take (k + 1)).filter dirt_).length = ((l.take k).filter dirt_).length + (if dirt_ (s, d) then 1 else 0)) := by
        show _ = _
        rw [List.take_succ_eq_append_getElem hkl, List.filter_append, List.length_append, hp]
        by_cases hb : dirt_ (s, d) = true <;> simp [hb]
      obtain ⟨m, hm⟩ : ∃ m, ((l.take k).filter dirt_).length = m := ⟨_, rfl⟩
      rw [hm] at HT hfl ⊢
      have hm4 : m ≤ 4096 := by omega
      clear hm hfl hlg hC
      go_wp2_with fail
      refine (HC.out _).mono ?_
      rintro e w2 ⟨rfl, hb2⟩
      have hA : Below wr.heap.size wr (wr.alloc (.cells #[.int .i64 s, .bool d] 35)) := (Below.refl _ wr).alloc (Nat.le_refl _) _
      have hZ : Below wr.heap.size wr w2 := hA.trans (hb2.mono (by simp))
      have HI2 : Hid (CI w w2 x g b n l f slots (k + 1)) := ⟨HIX.out.below hZ (Nat.le_refl _), HBX.out.trans (hZ.mono HBX.out.size)⟩
      clear hA hZ hb2 HC HIX HBX d0 g0 g1
      obtain ⟨bt, hbt⟩ : ∃ y, y = dirt_ (s, d) := ⟨_, rfl⟩
      rw [← hbt]
      rw [← hbt] at HT
      clear hbt
      cases bt
      · go_wp2
        go_roundw
        case rel => exact ⟨k + 1, by omega, by go_num, by rw [HT.out]; rfl, HI2.out⟩
        case measure => simp [intOf]; omega
      · go_wp2
        go_roundw
        case rel => exact ⟨k + 1, by omega, by go_num, by rw [HT.out]; go_num, HI2.out⟩
        case measure => simp [intOf]; omega
    · have hkl2 : l.take k = l := List.take_of_length_le (by omega)
      rw [hkl2]
      clear hkl2
      go_wp2
      go_ret
      exact ⟨rfl, HBX.out⟩

/-- what an index may hold: a block is nowhere, or at a slot -/
def Fit (slots : Nat) (l : List (Int × Bool)) : Prop := ∀ p ∈ l, p = (-1, false) ∨ (0 ≤ p.1 ∧ p.1 < (slots : Int))
theorem len_any (h : Hid (Idx w x g b n l f slots)) (hl : l.length ≤ 4096) (hF : Fit slots l) : Calls Try.prog 15 #[.pointer (some ⟨x, 0, none⟩)] w fun e w' => e = .returned (.int .i64 ((l.filter some_).length : Int)) ∧ Below w.heap.size w w' := by
  have hf : Hid (∀ p, p ∈ l → ∀ W : World, Calls Try.prog 31 #[.agg #[.int .i64 p.1, .bool p.2]] W fun e W' => e = .returned (.bool (some_ p)) ∧ Below W.heap.size W W') := by
    intro p hp W
    rcases hF p hp with rfl | ⟨h1, _⟩
    · exact lenf_none W
    · exact lenf_some p.1 p.2 (by rw [beq_eq_false_iff_ne]; omega) W
  go_enter Try.func15, Try.ntmps15
  go_wp2_with fail
  refine (count_len h hl hf).mono ?_
  rintro e w' ⟨rfl, hb⟩
  go_wp2
  go_ret
  exact ⟨rfl, hb⟩
theorem dirty_any (h : Hid (Idx w x g b n l f slots)) (hl : l.length ≤ 4096) : Calls Try.prog 16 #[.pointer (some ⟨x, 0, none⟩)] w fun e w' => e = .returned (.int .i64 ((l.filter dirt_).length : Int)) ∧ Below w.heap.size w w' := by
  have hf : Hid (∀ p, p ∈ l → ∀ W : World, Calls Try.prog 32 #[.agg #[.int .i64 p.1, .bool p.2]] W fun e W' => e = .returned (.bool (dirt_ p)) ∧ Below W.heap.size W W') := fun p _ W => dirtyf p.1 p.2 W
  go_enter Try.func16, Try.ntmps16
  go_wp2_with fail
  refine (count_dirty h hl hf).mono ?_
  rintro e w' ⟨rfl, hb⟩
  go_wp2
  go_ret
  exact ⟨rfl, hb⟩
end
end Go.Proofs.Ytofeodhekpnpaaa


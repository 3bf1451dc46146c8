/- The walk of crc.Sum, with its closure and its two loops. -/
import Derived.Test.YtllbdbecenhomaaDoorSum
namespace Go.Proofs.YtllbdbecenhomaaDoor
open Go.RowKit Go.Proofs.CrcMath

theorem Tab.below {w w' : World} {B : Nat} (h : Tab w) (hb : Below B w w') (hB : 0 < B) : Tab w' := fun i hi => (hb.cell (p := ⟨0, i, none⟩) hB).trans (h i hi)
/-- the one block of the call's own: the variable 'sum' -/
def Box (w : World) (B s : Nat) : Prop := w.heap[B]? = some (.cells #[.int .i64 (s : Int)] 3 (0, 0))
theorem Box.cell {w : World} {B s : Nat} (h : Box w B s) : w.cell? ⟨B, 0, none⟩ = some (.int .i64 (s : Int)) := cell_of_one h
theorem Box.free {w : World} {B s : Nat} (h : Box w B s) : w.frozen? ⟨B, 0, none⟩ = false := free_of_one h

set_option maxHeartbeats 400000 in
theorem put_any (B s x : Nat) (w : World) (hs : s < 4294967296) (hx : x < 256) (hT : Hid (Tab w)) (hb : Hid (Box w B s)) :
    Calls Tryd.prog 16 #[.int .u8 x, .pointer (some ⟨B, 0, none⟩)] w fun e w' => e = .returned (.tuple #[]) ∧ Hid (Box w' B (next s x)) ∧ Below B w w' ∧ Hid (w'.heap.size = w.heap.size) := by
  have hc := hb.out.cell
  have hf := hb.out.free
  go_enter Tryd.func16, Tryd.ntmps16
  go_wp2_with fail
  refine (next_any s x _ hs hx hT).mono ?_
  rintro e w' ⟨rfl, rfl⟩
  go_wp2
  go_end0
  refine ⟨rfl, one_setCell hb.out, (Below.refl B w).setCell (p := ⟨B, 0, none⟩) (Nat.le_refl _) _, ?_⟩
  show (w.setCell _ _).heap.size = _
  simp [World.setCell]

/-- a slice value of byte slices that reads as these lists, below block B -/
def RowsAt (w : World) (B : Nat) (A : Option Addr) (n : Nat) (ls : List (List Nat)) : Prop :=
  ls.length = n ∧ (0 < n → ∃ b off, A = some ⟨b, off, none⟩ ∧ b < B ∧ ∀ j (h : j < ls.length), ∃ v, w.cell? ⟨b, off + j, none⟩ = some v ∧ BytesAt w B v ls[j])

set_option maxHeartbeats 800000 in
theorem sum_any (A : Option Addr) (n c : Nat) (ls : List (List Nat)) (w : World) (hn : n ≤ 1048576) (hls : ∀ l ∈ ls, l.length ≤ 1048576) (hT : Hid (Tab w)) (h0 : 0 < w.heap.size) (hr : RowsAt w w.heap.size A n ls) :
    Calls Tryd.prog 11 #[.slice A n c] w fun e w' => e = .returned (.int .i64 (sum ls.flatten : Nat)) ∧ Below w.heap.size w w' := by
  have HR := Lib.hid hr
  have HLS := Lib.hid hls
  clear hr hls
  have hmf : ∀ (fn : Fn) (first cap : Array Value) (w : World), (Instr.makeFunc fn first cap).run Tryd.prog w = .ok (.func fn first cap) w := fun _ _ _ _ => rfl
  go_enter Tryd.func11, Tryd.ntmps11
  go_wp2
  go_step3
  go_wp2
  go_step3
  go_wp2
  go_loopw [12] (fun i wr => ∃ k u : Nat, k ≤ n ∧ u < 4294967296 ∧ Hid (go all (ls.take k).flatten = u) ∧ i = .int .i64 k ∧ Hid (Box wr w.heap.size u) ∧ Hid (Below w.heap.size w wr)) (fun i _ => n - (intOf i).toNat)
  case atStart =>
    refine ⟨0, all, by omega, all_lt, rfl, rfl, ?_, (Below.refl _ _).alloc (Nat.le_refl _) _⟩
    show (w.heap.push _)[w.heap.size]? = _
    simp; rfl
  case round =>
    obtain ⟨k, u, hk, hu, HU, rfl, HB, HW⟩ := hrel
    by_cases hk2 : k < n
    · obtain ⟨hlen, hcs⟩ := HR.out
      obtain ⟨b, off, rfl, hb, hcs⟩ := hcs (by omega)
      obtain ⟨v, hc, hv⟩ := hcs k (by omega)
      have hc := (HW.out.cell (p := ⟨b, off + k, none⟩) hb).trans hc
      clear hcs
      obtain ⟨l, hl⟩ : ∃ l, l = ls[k] := ⟨_, rfl⟩
      rw [← hl] at hv
      have hll : l.length ≤ 1048576 := by rw [hl]; exact HLS.out _ (List.getElem_mem _)
      have HL : Hid (go all (ls.take (k + 1)).flatten = go u l) := by
        show _ = _
        rw [List.take_succ_eq_append_getElem (by omega), List.flatten_append, go_append, HU.out, hl]; simp
      clear hl hlen
      obtain ⟨hby, A', c', rfl, hcells⟩ := hv
      have HC := Lib.hid hcells
      have HBY := Lib.hid hby
      clear hcells hby
      by_cases h0l : l.length = 0
      · have hl0 : l = [] := List.length_eq_zero_iff.1 h0l
        subst hl0
        clear h0l
        go_wp2
        go_roundw
        case rel => exact ⟨k + 1, u, by omega, hu, HL, by go_num, HB, HW⟩
        case measure => simp [intOf]; omega
      · have hpos : ((l.length : Int) == 0) = false := by rw [beq_eq_false_iff_ne]; omega
        clear h0l
        go_wp2
        obtain ⟨wo, rfl⟩ : ∃ wo : World, wo = wr := ⟨_, rfl⟩
        have HB0 := HB
        clear HB hc
        go_loopw [21] (fun i wr => ∃ j y : Nat, j ≤ l.length ∧ y < 4294967296 ∧ Hid (go u (l.take j) = y) ∧ i = .int .i64 j ∧ Hid (Box wr w.heap.size y) ∧ Hid (Below w.heap.size w wr)) (fun i _ => l.length - (intOf i).toNat)
        case atStart => exact ⟨0, u, by omega, hu, rfl, rfl, HB0, HW⟩
        case round =>
          obtain ⟨j, y, hj, hy, HY, rfl, HB2, HW2⟩ := hrel
          by_cases hj2 : j < l.length
          · obtain ⟨b', off', rfl, hb', hcs⟩ := HC.out (by omega)
            obtain ⟨x, hx⟩ : ∃ x, l[j] = x := ⟨_, rfl⟩
            have hcx := (HW2.out.cell (p := ⟨b', off' + j, none⟩) hb').trans (hcs j hj2)
            rw [hx] at hcx
            clear hcs
            have hxl : x < 256 := by rw [← hx]; exact HBY.out _ (List.getElem_mem hj2)
            have HX := Lib.hid hx
            clear hx
            have hT2 : Hid (Tab wr) := hT.out.below HW2.out h0
            go_wp2_with fail
            refine (put_any w.heap.size y x _ hy hxl hT2 HB2).mono ?_
            rintro e w' ⟨rfl, HB3, hb3, hsz⟩
            have HW3 := Lib.hid (HW2.out.trans hb3)
            clear hb3 hcx
            go_wp2
            go_roundw
            case rel =>
              refine ⟨j + 1, next y x, by omega, next_lt _ _ hy hxl, ?_, by go_num, HB3, HW3⟩
              show go u (l.take (j + 1)) = _
              rw [List.take_succ_eq_append_getElem hj2, go_append, HY.out, HX.out]; rfl
            case measure => simp [intOf]; omega
          · have hjl : j = l.length := by omega
            have hf : y = go u l := by rw [← HY.out, hjl, List.take_length]
            go_wp2
            go_roundw
            case rel => exact ⟨k + 1, y, by omega, hy, by show _ = _; rw [HL.out, hf], by go_num, HB2, HW2⟩
            case measure => simp [intOf]; omega
    · have hkn : k = n := by omega
      have hc := HB.out.cell
      have hx : bits .xor .i64 (u : Int) 4294967295 = ((u ^^^ all : Nat) : Int) := i64_xor_nat u all (by omega) (by decide)
      go_wp2
      try rw [Exit.noGoto_ret]
      go_ret
      refine ⟨?_, HW.out⟩
      have e : u = go all ls.flatten := by rw [← HU.out, hkn, ← HR.out.1, List.take_length]
      rw [show sum ls.flatten = u ^^^ all by rw [e]; rfl]; rfl
end Go.Proofs.YtllbdbecenhomaaDoor

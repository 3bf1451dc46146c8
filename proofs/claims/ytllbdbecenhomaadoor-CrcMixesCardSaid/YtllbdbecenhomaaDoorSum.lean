/- The walks of the two sums: the reference's, bit by bit, and crc's, with its closure. -/
import Derived.Test.YtllbdbecenhomaaDoorFns
import Derived.Deep.LoopGhost
namespace Go.Proofs.YtllbdbecenhomaaDoor
open Go.RowKit Go.Proofs.CrcMath

/-- a slice value that reads as these bytes, below block B -/
def BytesAt (w : World) (B : Nat) (v : Value) (l : List Nat) : Prop :=
  (∀ x ∈ l, x < 256) ∧ ∃ A c, v = .slice A l.length c ∧ (0 < l.length → ∃ b off, A = some ⟨b, off, none⟩ ∧ b < B ∧ ∀ j (h : j < l.length), w.cell? ⟨b, off + j, none⟩ = some (.int .u8 ((l[j] : Nat) : Int)))
theorem BytesAt.below {w w' : World} {B : Nat} {v : Value} {l : List Nat} (h : BytesAt w B v l) {B' : Nat} (hb : Below B' w w') (hB : B ≤ B') : BytesAt w' B v l := by
  obtain ⟨h1, A, c, rfl, h2⟩ := h
  refine ⟨h1, A, c, rfl, fun hl => ?_⟩
  obtain ⟨b, off, rfl, hlt, hc⟩ := h2 hl
  exact ⟨b, off, rfl, hlt, fun j hj => (hb.cell (p := ⟨b, off + j, none⟩) (by show b < B'; omega)).trans (hc j hj)⟩

set_option maxHeartbeats 800000 in
theorem refGo_any (s : Nat) (v : Value) (l : List Nat) (B : Nat) (w : World) (hs : s < 4294967296) (hl : l.length ≤ 1048576) (hv : BytesAt w B v l) :
    Calls Tryd.prog 15 #[.int .i64 s, v] w fun e w' => e = .returned (.int .i64 (go s l : Nat)) ∧ w = w' := by
  obtain ⟨hby, A, c, rfl, hcells⟩ := hv
  have HC := Lib.hid hcells
  have HBY := Lib.hid hby
  clear hcells hby
  go_enter Tryd.func15, Tryd.ntmps15
  go_wp2
  go_loop [0, 5, 6, 7] (fun a i _ _ => ∃ k u : Nat, k ≤ l.length ∧ u < 4294967296 ∧ Hid (go s (l.take k) = u) ∧ i = .int .i64 k ∧ a = .int .i64 u) (fun _ i _ _ => l.length - (intOf i).toNat)
  case atStart => exact ⟨0, s, by omega, hs, rfl, rfl, rfl⟩
  case round =>
    obtain ⟨k, u, hk, hu, HU, rfl, rfl⟩ := hrel
    by_cases hk2 : k < l.length
    · obtain ⟨b, off, rfl, _, hcs⟩ := HC.out (by omega)
      obtain ⟨x, hx⟩ : ∃ x, l[k] = x := ⟨_, rfl⟩
      have hc := hcs k hk2
      rw [hx] at hc
      clear hcs
      have hxl : x < 256 := by rw [← hx]; exact HBY.out _ (List.getElem_mem hk2)
      have HX := Lib.hid hx
      clear hx
      go_wp2
      go_loop [0, 6, 7] (fun a n i => ∃ j y q : Nat, j ≤ 8 ∧ y < 4294967296 ∧ q < 256 ∧ Hid (byteBits y q (8 - j) = byteBits u x 8) ∧ i = .int .i64 j ∧ a = .int .i64 y ∧ n = .int .i64 q) (fun _ _ i => 8 - (intOf i).toNat)
      case atStart => exact ⟨0, u, x, by omega, hu, hxl, rfl, rfl, rfl, rfl⟩
      case round =>
        obtain ⟨j, y, q, hj, hy, hq, HY, rfl, rfl, rfl⟩ := hrel
        by_cases hj2 : j < 8
        · have hst : bitStep y (q % 2) < 4294967296 := by rw [step_st _ _ (by omega)]; exact st_lt _ (Nat.xor_lt_two_pow (n := 32) hy (by omega))
          have cS := fun W => step_any y (q % 2) W hy (by omega)
          rw [show (((q % 2 : Nat)) : Int) = (q : Int) % 2 by omega] at cS
          have CS := Lib.hid cS
          clear cS
          go_wp2_with fail
          refine (CS.out _).mono ?_
          rintro e w' ⟨rfl, rfl⟩
          go_wp2
          go_round
          case rel =>
            refine ⟨j + 1, bitStep y (q % 2), q / 2, by omega, hst, by omega, ?_, by go_num, rfl, ?_⟩
            · show byteBits (bitStep y (q % 2)) (q / 2) (8 - (j + 1)) = _
              rw [← HY.out, show 8 - j = (8 - (j + 1)) + 1 by omega]; rfl
            · rw [Int.natCast_ediv]; rfl
          case measure => simp [intOf]; omega
        · obtain rfl : j = 8 := by omega
          have hyn : y = next u x := by have := HY.out; rw [byteBits_next _ _ hxl] at this; exact this
          have hyl : next u x < 4294967296 := next_lt _ _ hu hxl
          subst hyn
          go_wp2
          go_round
          case rel =>
            refine ⟨k + 1, next u x, by omega, hyl, ?_, by go_num, rfl⟩
            show go s (l.take (k + 1)) = _
            rw [List.take_succ_eq_append_getElem hk2, go_append, HU.out, HX.out]; rfl
          case measure => simp [intOf]; omega
    · go_wp2
      have hkl : k = l.length := by omega
      have hf : u = go s l := by rw [← HU.out, hkl, List.take_length]
      subst hf
      go_ret
      exact ⟨rfl, rfl⟩

set_option maxHeartbeats 400000 in
theorem refSum_any (v : Value) (l : List Nat) (B : Nat) (w : World) (hl : l.length ≤ 1048576) (hv : BytesAt w B v l) :
    Calls Tryd.prog 10 #[v] w fun e w' => e = .returned (.int .i64 (sum l : Nat)) ∧ w = w' := by
  have hgl : go all l < 4294967296 := go_lt l all all_lt hv.1
  have HS : Hid (((sum l : Nat) : Int) = 4294967295 - (go all l : Nat)) := by
    show _ = _
    have h := sub_all _ hgl
    have ha : all = 4294967295 := rfl
    unfold sum
    omega
  have cG := refGo_any all v l B
  rw [show ((all : Nat) : Int) = 4294967295 from rfl] at cG
  have CG := Lib.hid (fun W h => cG W all_lt hl h)
  clear cG
  have HV := Lib.hid hv
  clear hv
  go_enter Tryd.func10, Tryd.ntmps10
  go_wp2_with fail
  refine (CG.out _ HV.out).mono ?_
  rintro e w' ⟨rfl, rfl⟩
  go_wp2
  go_ret
  rw [HS.out]
  exact ⟨rfl, rfl⟩
end Go.Proofs.YtllbdbecenhomaaDoor

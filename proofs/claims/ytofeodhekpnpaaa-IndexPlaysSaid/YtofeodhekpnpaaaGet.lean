/- The walks of Get and At. -/
import Derived.Test.YtofeodhekpnpaaaNew
namespace Go.Proofs.Ytofeodhekpnpaaa
open Go.RowKit Go.LawEnd

section
variable {w : World} {x b n slots : Nat} {g : Rowd} {l : List (Int × Bool)} {f : Int → Option Int}
theorem Idx.facts {W : World} (h : Idx W x g b n l f slots) (i : Nat) (hi : i < l.length) {s : Int} {d : Bool} (he : l[i] = (s, d)) :
    W.cell? ⟨x, 0, none⟩ = some (.slice (some ⟨g, 0, none⟩) l.length g.cap) ∧ W.cell? ⟨g, i * 2, none⟩ = some (.int .i64 s) ∧ W.cell? ⟨g, i * 2 + 1, none⟩ = some (.bool d) := by
  have := h.cell_ i hi
  rw [he] at this
  exact ⟨by simpa using h.head.cell 0, this.1, this.2⟩

theorem get_nil (i : Int) : Calls Try.prog 13 #[.pointer none, .int .i64 i] w fun e w' => e = .returned (.tuple #[.agg #[.int .i64 0, .bool false], .int .i64 2]) ∧ Below w.heap.size w w' := by
  have hb := Lib.hid ((Below.refl w.heap.size w).alloc (Nat.le_refl _) (.cells #[.int .i64 0, .bool false] 35))
  go_enter Try.func13, Try.ntmps13
  go_wp2_with fail
  refine (check_nil i).mono ?_
  rintro e w' ⟨rfl, rfl⟩
  go_wp2
  refine bodyPost_ret (v := .tuple #[.agg #[.int .i64 0, .bool false], .int .i64 2]) ?_ rfl ⟨rfl, hb.out⟩
  rw [results_cell_tmp rfl]; go_simp
theorem get_out (i : Int) (h : Hid (Idx w x g b n l f slots)) (hi : i < 0 ∨ (l.length : Int) ≤ i) : Calls Try.prog 13 #[.pointer (some ⟨x, 0, none⟩), .int .i64 i] w fun e w' => e = .returned (.tuple #[.agg #[.int .i64 0, .bool false], .int .i64 10]) ∧ Below w.heap.size w w' := by
  have hb := Lib.hid ((Below.refl w.heap.size w).alloc (Nat.le_refl _) (.cells #[.int .i64 0, .bool false] 35))
  have h1 := Lib.hid (h.out.below hb.out (Nat.le_refl _))
  go_enter Try.func13, Try.ntmps13
  go_wp2_with fail
  refine (check_out i h1 hi).mono ?_
  rintro e w' ⟨rfl, rfl⟩
  go_wp2
  refine bodyPost_ret (v := .tuple #[.agg #[.int .i64 0, .bool false], .int .i64 10]) ?_ rfl ⟨rfl, hb.out⟩
  rw [results_cell_tmp rfl]; go_simp

set_option maxHeartbeats 1600000 in
theorem get_none (i : Nat) (h : Hid (Idx w x g b n l f slots)) (hi : i < l.length) (he : l[i] = (-1, false)) : Calls Try.prog 13 #[.pointer (some ⟨x, 0, none⟩), .int .i64 (i : Int)] w fun e w' => e = .returned (.tuple #[.agg #[.int .i64 0, .bool false], .int .i64 14]) ∧ Below w.heap.size w w' := by
  have hb := (Below.refl w.heap.size w).alloc (Nat.le_refl _) (.cells #[.int .i64 0, .bool false] 35)
  have h1 := Lib.hid (h.out.below hb (Nat.le_refl _))
  have HK : Hid (∀ W : World, Below (w.heap.size + 1) (w.alloc (.cells #[.int .i64 0, .bool false] 35)) W → Below (w.heap.size + 1) (w.alloc (.cells #[.int .i64 0, .bool false] 35)) W ∧ W.cell? ⟨x, 0, none⟩ = some (.slice (some ⟨g, 0, none⟩) l.length g.cap) ∧ W.cell? ⟨g, i * 2, none⟩ = some (.int .i64 (-1)) ∧ W.cell? ⟨g, i * 2 + 1, none⟩ = some (.bool false)) := fun W hW =>
    ⟨hW, (h1.out.below hW (by simp)).facts i hi he⟩
  have HR : Hid (∀ W : World, Below (w.heap.size + 1) (w.alloc (.cells #[.int .i64 0, .bool false] 35)) W → W.cell? ⟨w.heap.size, 0, none⟩ = some (.int .i64 0) ∧ W.cell? ⟨w.heap.size, 1, none⟩ = some (.bool false) ∧ W.frozen? ⟨w.heap.size, 0, none⟩ = false ∧ W.frozen? ⟨w.heap.size, 1, none⟩ = false ∧ Below w.heap.size w W) := fun W hW => by
    have hk := (Blk.new w 35 #[.int .i64 0, .bool false]).below hW (Nat.lt_succ_self _)
    exact ⟨by simpa using hk.cell 0, by simpa using hk.cell 1, hk.frozen 0, hk.frozen 1, hb.trans (hW.mono (Nat.le_succ _))⟩
  clear hb
  go_enter Try.func13, Try.ntmps13
  go_wp2_with fail
  refine (check_in i h1 hi).mono ?_
  rintro e w' ⟨rfl, rfl⟩
  go_wp2_with fail
  go_region_held3 (fun W => Below (w.heap.size + 1) (w.alloc (.cells #[.int .i64 0, .bool false] 35)) W ∧ W.cell? ⟨x, 0, none⟩ = some (.slice (some ⟨g, 0, none⟩) l.length g.cap) ∧ W.cell? ⟨g, i * 2, none⟩ = some (.int .i64 (-1)) ∧ W.cell? ⟨g, i * 2 + 1, none⟩ = some (.bool false))
    (first | exact HK.out _ (Below.drew (Below.refl _ _)) | exact HK.out _ hb2 | assumption | fail)
    (first
      | (go_at_call 24; refine (none_any _).mono ?_; rintro e w2 ⟨rfl, hb2'⟩; have hb2 : Below (w.heap.size + 1) (w.alloc (.cells #[.int .i64 0, .bool false] 35)) w2 := (Below.drew (Below.refl _ _)).trans (hb2'.mono (by simp)); clear hb2')
      | fail)
  obtain ⟨r0, r1, f0, f1, hw2⟩ := HR.out _ hb2
  have HW2 := Lib.hid hw2
  clear hb2 hw2
  go_wp2
  refine bodyPost_ret (v := .tuple #[.agg #[.int .i64 0, .bool false], .int .i64 14]) ?_ rfl ⟨rfl, ?_⟩
  · rw [results_cell_tmp rfl]; go_simp
  · exact (HW2.out.setCell (p := ⟨w.heap.size, 0, none⟩) (Nat.le_refl _) _).setCell (p := ⟨w.heap.size, 1, none⟩) (Nat.le_refl _) _
set_option maxHeartbeats 1600000 in
theorem get_some (i : Nat) (s : Int) (d : Bool) (hs : (s == -1) = false) (h : Hid (Idx w x g b n l f slots)) (hi : i < l.length) (he : l[i] = (s, d)) : Calls Try.prog 13 #[.pointer (some ⟨x, 0, none⟩), .int .i64 (i : Int)] w fun e w' => e = .returned (.tuple #[.agg #[.int .i64 s, .bool d], .int .i64 0]) ∧ Below w.heap.size w w' := by
  have hb := (Below.refl w.heap.size w).alloc (Nat.le_refl _) (.cells #[.int .i64 0, .bool false] 35)
  have h1 := Lib.hid (h.out.below hb (Nat.le_refl _))
  have HK : Hid (∀ W : World, Below (w.heap.size + 1) (w.alloc (.cells #[.int .i64 0, .bool false] 35)) W → Below (w.heap.size + 1) (w.alloc (.cells #[.int .i64 0, .bool false] 35)) W ∧ W.cell? ⟨x, 0, none⟩ = some (.slice (some ⟨g, 0, none⟩) l.length g.cap) ∧ W.cell? ⟨g, i * 2, none⟩ = some (.int .i64 s) ∧ W.cell? ⟨g, i * 2 + 1, none⟩ = some (.bool d)) := fun W hW =>
    ⟨hW, (h1.out.below hW (by simp)).facts i hi he⟩
  have HR : Hid (∀ W : World, Below (w.heap.size + 1) (w.alloc (.cells #[.int .i64 0, .bool false] 35)) W → W.cell? ⟨w.heap.size, 0, none⟩ = some (.int .i64 0) ∧ W.cell? ⟨w.heap.size, 1, none⟩ = some (.bool false) ∧ W.frozen? ⟨w.heap.size, 0, none⟩ = false ∧ W.frozen? ⟨w.heap.size, 1, none⟩ = false ∧ Below w.heap.size w W) := fun W hW => by
    have hk := (Blk.new w 35 #[.int .i64 0, .bool false]).below hW (Nat.lt_succ_self _)
    exact ⟨by simpa using hk.cell 0, by simpa using hk.cell 1, hk.frozen 0, hk.frozen 1, hb.trans (hW.mono (Nat.le_succ _))⟩
  clear hb
  go_enter Try.func13, Try.ntmps13
  go_wp2_with fail
  refine (check_in i h1 hi).mono ?_
  rintro e w' ⟨rfl, rfl⟩
  go_wp2_with fail
  go_region_held3 (fun W => Below (w.heap.size + 1) (w.alloc (.cells #[.int .i64 0, .bool false] 35)) W ∧ W.cell? ⟨x, 0, none⟩ = some (.slice (some ⟨g, 0, none⟩) l.length g.cap) ∧ W.cell? ⟨g, i * 2, none⟩ = some (.int .i64 s) ∧ W.cell? ⟨g, i * 2 + 1, none⟩ = some (.bool d))
    (first | exact HK.out _ (Below.drew (Below.refl _ _)) | exact HK.out _ hb2 | assumption | fail)
    (first
      | (go_at_call 24; refine (none_any _).mono ?_; rintro e w2 ⟨rfl, hb2'⟩; have hb2 : Below (w.heap.size + 1) (w.alloc (.cells #[.int .i64 0, .bool false] 35)) w2 := (Below.drew (Below.refl _ _)).trans (hb2'.mono (by simp)); clear hb2')
      | fail)
  obtain ⟨r0, r1, f0, f1, hw2⟩ := HR.out _ hb2
  obtain ⟨_, q0, q1, q2⟩ := HK.out _ hb2
  have HW2 := Lib.hid hw2
  clear hb2 hw2
  go_wp2
  refine bodyPost_ret (v := .tuple #[.agg #[.int .i64 s, .bool d], .int .i64 0]) ?_ rfl ⟨rfl, ?_⟩
  · rw [results_cell_tmp rfl]; go_simp
  · exact (HW2.out.setCell (p := ⟨w.heap.size, 0, none⟩) (Nat.le_refl _) _).setCell (p := ⟨w.heap.size, 1, none⟩) (Nat.le_refl _) _

theorem at_nil (i : Int) : Calls Try.prog 14 #[.pointer none, .int .i64 i] w fun e w' => e = .returned (.tuple #[.int .i64 0, .int .i64 2]) ∧ w = w' := by
  go_enter Try.func14, Try.ntmps14
  go_wp2
  go_ret2
  exact ⟨rfl, rfl⟩
theorem at_out (i : Int) (h : Hid (Idx w x g b n l f slots)) (hi : i < 0 ∨ (slots : Int) ≤ i) : Calls Try.prog 14 #[.pointer (some ⟨x, 0, none⟩), .int .i64 i] w fun e w' => e = .returned (.tuple #[.int .i64 0, .int .i64 10]) ∧ w = w' := by
  have c2 := h.out.head.cell 2
  simp at c2
  by_cases h0 : i < 0
  · clear hi
    go_enter Try.func14, Try.ntmps14
    go_wp2
    go_ret2
    exact ⟨rfl, rfl⟩
  · have h1 : (slots : Int) ≤ i := by omega
    clear hi
    go_enter Try.func14, Try.ntmps14
    go_wp2
    go_ret2
    exact ⟨rfl, rfl⟩
theorem look_at (h : Hid (Idx w x g b n l f slots)) {s : Int} (h0 : 0 ≤ s) (h1 : s < slots) (h2 : slots ≤ 1024) : (Instr.lookup 60 (.map (some b)) (.int .i64 s) true).run Try.prog w = .ok (.tuple #[.int .i64 ((f s).getD 0), .bool (f s).isSome]) w :=
  h.out.map.run_look keyLaw Try.underlying60 Try.underlying3 Try.underlying3 zeroInt (WalkArith.wf_i64 (by omega))
theorem at_none (s : Int) (h : Hid (Idx w x g b n l f slots)) (h0 : 0 ≤ s) (h1 : s < slots) (h2 : slots ≤ 1024) (hf : f s = none) : Calls Try.prog 14 #[.pointer (some ⟨x, 0, none⟩), .int .i64 s] w fun e w' => e = .returned (.tuple #[.int .i64 0, .int .i64 14]) ∧ w = w' := by
  have hk := look_at h h0 h1 h2
  rw [hf] at hk
  have c1 := h.out.head.cell 1
  have c2 := h.out.head.cell 2
  simp at c1 c2 hk
  go_enter Try.func14, Try.ntmps14
  go_wp2
  go_ret2
  exact ⟨rfl, rfl⟩
theorem at_some (s v : Int) (h : Hid (Idx w x g b n l f slots)) (h0 : 0 ≤ s) (h1 : s < slots) (h2 : slots ≤ 1024) (hf : f s = some v) : Calls Try.prog 14 #[.pointer (some ⟨x, 0, none⟩), .int .i64 s] w fun e w' => e = .returned (.tuple #[.int .i64 v, .int .i64 0]) ∧ w = w' := by
  have hk := look_at h h0 h1 h2
  rw [hf] at hk
  have c1 := h.out.head.cell 1
  have c2 := h.out.head.cell 2
  simp at c1 c2 hk
  go_enter Try.func14, Try.ntmps14
  go_wp2
  go_ret2
  exact ⟨rfl, rfl⟩
end
end Go.Proofs.Ytofeodhekpnpaaa

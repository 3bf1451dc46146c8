/- The walk of New. -/
import Derived.Test.YtelkanfmhfopnaaCut
namespace Go.Proofs.Ytelkanfmhfopnaa
open Go.RowKit Go.LawEnd

def newF (l : List Sp) : List Sp := l.foldl addF []
theorem newF_snoc (l : List Sp) (x : Sp) : newF (l ++ [x]) = addF (newF l) x := by simp [newF]
theorem adds_ok {l : List Sp} : ∀ {a : List Sp}, OkS a → (∀ x ∈ l, May x) → OkS (l.foldl addF a) ∧ ∀ n, mem (l.foldl addF a) n ↔ mem a n ∨ mem l n := by
  induction l with
  | nil => exact fun ha _ => ⟨ha, fun n => by simp [mem_nil]⟩
  | cons x l ih =>
    intro a ha h
    have h3 := add_ok ha (h x (List.mem_cons_self ..))
    obtain ⟨h1, h2⟩ := ih h3.1 fun y hy => h y (List.mem_cons_of_mem _ hy)
    refine ⟨h1, fun n => ?_⟩
    rw [List.foldl_cons, h2 n, h3.2 n, mem_cons, or_assoc]
theorem newF_ok {l : List Sp} (h : ∀ x ∈ l, May x) : OkS (newF l) ∧ ∀ n, mem (newF l) n ↔ mem l n := by
  obtain ⟨h1, h2⟩ := adds_ok OkS.nil h
  exact ⟨h1, fun n => by unfold newF; rw [h2 n]; simp [mem_nil]⟩
def I64 (x : Sp) : Prop := (-9223372036854775808 ≤ x.1 ∧ x.1 ≤ 9223372036854775807) ∧ (-9223372036854775808 ≤ x.2 ∧ x.2 ≤ 9223372036854775807)

set_option maxRecDepth 100000 in
set_option maxHeartbeats 3200000 in
theorem new_any (A : Option Addr) (cp : Nat) (l : List Sp) (w : World) (h : Hid (SpArg w A l)) (hl : l.length ≤ 9223372036854775807) (hi : Hid (∀ y ∈ l, I64 y)) :
    Calls Try.prog 11 #[.slice A l.length cp] w fun e w' => ((∀ y ∈ l, mayB y = true) ∧ ∃ s, e = .returned (.tuple #[.pointer (some ⟨s, 0, none⟩), .int .i64 0]) ∧ Hv w No [setA s (newF l)] w') ∨
      ((∃ y ∈ l, mayB y = false) ∧ e = .returned (.tuple #[.pointer none, .int .i64 10]) ∧ Below w.heap.size w w') := by
  go_enter Try.func11, Try.ntmps11
  go_wp2_with fail
  obtain ⟨s, hs⟩ : ∃ y, y = w.heap.size := ⟨_, rfl⟩
  obtain ⟨w0, hw0⟩ : ∃ y, y = w.alloc (.cells #[.slice none 0 0] 59) := ⟨_, rfl⟩
  rw [← hw0, ← hs]
  have HV0 : Hid (Hv w No [setA s []] w0) := by
    rw [hw0, hs]
    exact hv_mkSet (((((Hv.begin w).alloc 59 #[.slice none 0 0]).nilRow 26 2)).pick [1, 0]) (fun _ => rfl)
  clear hw0 hs
  go_loopw [12] (fun i wr => ∃ k : Nat, k ≤ l.length ∧ i = .int .i64 k ∧ Hv w No [setA s (newF (l.take k))] wr ∧ ∀ y ∈ l.take k, mayB y = true) (fun i _ => l.length - (intOf i).toNat)
  case atStart => exact ⟨0, by omega, rfl, HV0.out, fun y hy => by simp at hy⟩
  case round =>
    obtain ⟨k, hk, rfl, HI, HM⟩ := hrel
    have HV := Lib.hid HI
    have HMB := Lib.hid HM
    clear HI HM HV0
    by_cases hkl : k < l.length
    · obtain ⟨b, off, rfl, hb, c0, c1⟩ := h.out k hkl
      have hil := hi.out l[k] (List.getElem_mem hkl)
      have hts : l.take (k + 1) = l.take k ++ [l[k]] := List.take_succ_eq_append_getElem hkl
      have hmem : l[k] ∈ l := List.getElem_mem hkl
      obtain ⟨y, hy⟩ : ∃ y, y = l[k] := ⟨_, rfl⟩
      rw [← hy] at c0 c1 hil hts hmem
      clear hy
      obtain ⟨y0, y1⟩ := y
      have HT := Lib.hid hts
      have HY := Lib.hid hmem
      obtain ⟨_, hi1, hi2⟩ := hil
      simp only [] at hi1 hi2
      have hbw := HV.out.below
      have d0 : wr.cell? ⟨b, off + k * 2, none⟩ = some (.int .i64 y0) := (hbw.cell (p := ⟨b, off + k * 2, none⟩) hb).trans c0
      have d1 : wr.cell? ⟨b, off + k * 2 + 1, none⟩ = some (.int .i64 y1) := (hbw.cell (p := ⟨b, off + k * 2 + 1, none⟩) hb).trans c1
      clear hbw hb c0 c1 hts hmem
      have HOK : Hid (OkS (newF (l.take k))) := (newF_ok fun x hx => (mayB_iff x).1 (HMB.out x hx)).1
      have HW : Hid (Hv w No [setA s (newF (l.take k))] (wr.alloc (.cells #[.int .i64 y0, .int .i64 y1] 26))) := HV.out.alloc_ _
      obtain ⟨T1, hT1, hJ⟩ := HW.out.all
      have HT1 := Lib.hid hT1
      have HJ := Lib.hid hJ
      have HADD := Lib.hid (add_any s (newF (l.take k)) (y0, y1) _ HT1 HOK hi1 hi2)
      clear hT1 hJ hi1 hi2
      go_wp2_with fail
      refine HADD.out.mono ?_
      rintro e W5 ⟨rfl, h5⟩
      have HV5 := Lib.hid (HJ.out _ _ h5)
      clear h5 HJ HT1 HW d0 d1 HADD HV
      by_cases hm : mayB (y0, y1) = true
      · rw [if_pos hm] at HV5 ⊢
        have HMY := Lib.hid hm
        clear hm
        go_wp2
        go_roundw
        case rel => exact ⟨k + 1, by omega, by go_num, by rw [HT.out, newF_snoc]; exact HV5.out, fun y hy => by
          rw [HT.out] at hy
          rcases List.mem_append.1 hy with h | h
          · exact HMB.out y h
          · rw [List.mem_singleton.1 h]; exact HMY.out⟩
        case measure => simp [intOf]; omega
      · rw [if_neg hm] at HV5 ⊢
        have HMY : Hid (mayB (y0, y1) = false) := by show _ = _; simpa using hm
        clear hm
        go_wp2
        refine bodyPost_ret (results_tmp2 rfl _ _ _) rfl ?_
        exact .inr ⟨⟨_, HY.out, HMY.out⟩, rfl, HV5.out.below⟩
    · have hkl2 : l.take k = l := List.take_of_length_le (by omega)
      rw [hkl2] at HV HMB
      clear hkl2
      go_wp2
      refine bodyPost_ret (results_tmp2 rfl _ _ _) rfl ?_
      exact .inl ⟨HMB.out, s, rfl, HV.out⟩
theorem new_may (A : Option Addr) (cp : Nat) (l : List Sp) (w : World) (h : Hid (SpArg w A l)) (hl : l.length ≤ 9223372036854775807) (hi : Hid (∀ y ∈ l, I64 y)) (hm : ∀ y ∈ l, mayB y = true) :
    Calls Try.prog 11 #[.slice A l.length cp] w fun e w' => ∃ s, e = .returned (.tuple #[.pointer (some ⟨s, 0, none⟩), .int .i64 0]) ∧ Hv w No [setA s (newF l)] w' := by
  refine (new_any A cp l w h hl hi).mono ?_
  rintro e w1 (⟨_, s, he, h1⟩ | ⟨⟨y, hy, hn⟩, _, _⟩)
  · exact ⟨s, he, h1⟩
  · rw [hm y hy] at hn; cases hn
theorem new_not (A : Option Addr) (cp : Nat) (l : List Sp) (w : World) (h : Hid (SpArg w A l)) (hl : l.length ≤ 9223372036854775807) (hi : Hid (∀ y ∈ l, I64 y)) (hm : ∃ y ∈ l, mayB y = false) :
    Calls Try.prog 11 #[.slice A l.length cp] w fun e w' => e = .returned (.tuple #[.pointer none, .int .i64 10]) ∧ Below w.heap.size w w' := by
  refine (new_any A cp l w h hl hi).mono ?_
  rintro e w1 (⟨ha, _⟩ | ⟨_, he, hb⟩)
  · obtain ⟨y, hy, hn⟩ := hm
    rw [ha y hy] at hn; cases hn
  · exact ⟨he, hb⟩
end Go.Proofs.Ytelkanfmhfopnaa

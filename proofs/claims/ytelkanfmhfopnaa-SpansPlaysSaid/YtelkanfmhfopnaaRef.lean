/- The document's sets: Turn, Len, Spans. -/
import Derived.Test.YtelkanfmhfopnaaTotal
import Derived.Test.YtelkanfmhfopnaaMoves
namespace Go.Proofs.Ytelkanfmhfopnaa
open Go.RowKit Go.LawEnd

theorem bits_ex : ∃ g : (Int → Bool) → Array Value, ∀ f, (g f).size = 200 ∧ ∀ i : Nat, i < 200 → (g f)[i]? = some (.bool (f i)) :=
  ⟨fun f => ((List.range 200).map fun i : Nat => .bool (f i)).toArray, fun f => ⟨by simp, fun i h => by simp [h]⟩⟩
/-- the document's set in memory: which numbers below 200 are in -/
noncomputable def bits : (Int → Bool) → Array Value := Classical.choose bits_ex
theorem bits_size (f : Int → Bool) : (bits f).size = 200 := (Classical.choose_spec bits_ex f).1
theorem bits_get (f : Int → Bool) (i : Nat) (h : i < 200) : (bits f)[i]? = some (.bool (f i)) := (Classical.choose_spec bits_ex f).2 i h
theorem bits_ext {cs : Array Value} {f : Int → Bool} (h1 : cs.size = 200) (h2 : ∀ i : Nat, i < 200 → cs[i]? = some (.bool (f i))) : cs = bits f := by
  refine Array.ext (by rw [h1, bits_size]) fun j h3 h4 => ?_
  have h5 := h2 j (by omega)
  have h6 := bits_get f j (by omega)
  rw [Array.getElem?_eq_getElem h3] at h5
  rw [Array.getElem?_eq_getElem h4] at h6
  exact Option.some.inj (h5.trans h6.symm)
theorem bits_set (f : Int → Bool) (i : Nat) (b : Bool) : (bits f).setIfInBounds i (.bool b) = bits (fun n => if n = (i : Int) then b else f n) := by
  refine bits_ext (by rw [Array.size_setIfInBounds, bits_size]) fun j hj => ?_
  rw [Array.getElem?_setIfInBounds, bits_size, bits_get f j hj]
  by_cases h : i = j
  · subst h; simp [hj]
  · rw [if_neg h, if_neg (by omega)]
noncomputable abbrev refA (r : Nat) (f : Int → Bool) : Atom := blkA r 41 (bits f)
theorem ref_cell {w0 w : World} {S : Nat → Prop} {L : List Atom} {r i : Nat} {f : Int → Bool} (h : Hv w0 S L w) (hi : L[i]? = some (refA r f)) (k : Nat) (hk : k < 200) : w.cell? ⟨r, k, none⟩ = some (.bool (f k)) := by
  rw [(h.blk hi).cell k]
  exact bits_get f k hk

set_option maxRecDepth 100000 in
set_option maxHeartbeats 3200000 in
theorem reflen_any {T : Nat → Prop} (r : Nat) (f : Int → Bool) (w : World) (h : Hid (Sep [refA r f] w T)) :
    Calls Try.prog 20 #[.pointer (some ⟨r, 0, none⟩)] w fun e w' => e = .returned (.int .i64 (cnt f 200)) ∧ Below w.heap.size w w' := by
  have HC : Hid (∀ k : Nat, k < 200 → w.cell? ⟨r, k, none⟩ = some (.bool (f k))) := fun k hk => ref_cell (Hv.start h.out) (i := 0) rfl k hk
  go_enter Try.func20, Try.ntmps20
  go_wp2_with fail
  go_loopw [3, 4] (fun n i wr => ∃ k : Nat, k ≤ 200 ∧ wr = w ∧ i = .int .i64 k ∧ n = .int .i64 (cnt f k)) (fun _ i _ => 200 - (intOf i).toNat)
  case atStart => exact ⟨0, by omega, rfl, rfl, rfl⟩
  case round =>
    obtain ⟨k, hk, rfl, rfl, rfl⟩ := hrel
    obtain ⟨n, hn⟩ : ∃ n, n = cnt f k := ⟨_, rfl⟩
    have hr := cnt_range (p := f) (m := k)
    have HN := Lib.hid hn
    rw [← hn] at hr ⊢
    clear hn
    by_cases hkl : k < 200
    · have c0 := HC.out k hkl
      have HS : Hid (cnt f (k + 1) = n + if f k = true then 1 else 0) := by show _ = _; rw [HN.out]; rfl
      cases hv : f k
      · rw [hv] at HS c0
        clear HN hv
        go_wp2_with fail
        go_roundw
        case rel => exact ⟨k + 1, by omega, trivial, by go_num, by rw [HS.out]; simp⟩
        case measure => simp [intOf]; omega
      · rw [hv] at HS c0
        clear HN hv
        go_wp2_with fail
        go_roundw
        case rel => exact ⟨k + 1, by omega, trivial, by go_num, by rw [HS.out]; go_num⟩
        case measure => simp [intOf]; omega
    · obtain rfl : k = 200 := by omega
      go_wp2
      go_ret
      rw [HN.out]
      exact ⟨rfl, Below.refl _ _⟩
def turnF (f : Int → Bool) (x : Sp) (b : Bool) (k : Nat) : Int → Bool := fun n => if innB x n = true ∧ n < k then b else f n

set_option maxRecDepth 100000 in
set_option maxHeartbeats 3200000 in
theorem turn_any {T : Nat → Prop} (r : Nat) (f : Int → Bool) (x : Sp) (b : Bool) (w : World) (h : Hid (Sep [refA r f] w T)) (hx : Hid (May x)) :
    Calls Try.prog 16 #[.pointer (some ⟨r, 0, none⟩), .agg #[.int .i64 x.1, .int .i64 x.2], .bool b] w fun e w' => (∃ v, e = .returned v) ∧ Hv w T [refA r (turnF f x b 200)] w' := by
  obtain ⟨x0, x1⟩ := x
  obtain ⟨P3, hP3⟩ : ∃ y, y = w.heap.size := ⟨_, rfl⟩
  obtain ⟨V, hV⟩ : ∃ y, y = w.alloc (.cells #[.int .i64 x0, .int .i64 x1] 26) := ⟨_, rfl⟩
  have HW : Hid (Hv w T [refA r f, blkA P3 26 #[.int .i64 x0, .int .i64 x1]] V) := by
    rw [hV, hP3]
    exact ((Hv.start h.out).alloc 26 #[.int .i64 x0, .int .i64 x1]).pick [1, 0]
  go_enter Try.func16, Try.ntmps16
  go_wp2_with fail
  rw [← hV, ← hP3]
  clear hV hP3 h
  obtain ⟨hx0, hx1, hx2⟩ := hx.out
  unfold en at hx2
  simp only [] at hx0 hx1 hx2
  go_loopw [6] (fun i wr => ∃ k : Nat, k ≤ 200 ∧ i = .int .i64 k ∧ Hid (Hv w T [refA r (turnF f (x0, x1) b k), blkA P3 26 #[.int .i64 x0, .int .i64 x1]] wr)) (fun i _ => 200 - (intOf i).toNat)
  case atStart =>
    refine ⟨0, by omega, rfl, ?_⟩
    have e : turnF f (x0, x1) b 0 = f := by
      funext n
      unfold turnF
      rw [if_neg]
      rintro ⟨h1, h2⟩
      have := innB_iff.1 h1
      unfold inn at this
      simp only [] at this
      omega
    rw [e]
    exact HW
  case round =>
    clear HW
    obtain ⟨k, hk, rfl, HV⟩ := hrel
    have k0 : wr.cell? ⟨P3, 0, none⟩ = some (.int .i64 x0) := by simpa using (HV.out.blk (i := 1) rfl).cell 0
    have k1 : wr.cell? ⟨P3, 1, none⟩ = some (.int .i64 x1) := by simpa using (HV.out.blk (i := 1) rfl).cell 1
    have a1 : IntKind.i64.wrap (x0 + x1) = x0 + x1 := IntWalk.i64_in _ (by omega)
    by_cases hkl : k < 200
    · have hin : ¬ (x0 ≤ (k : Int) ∧ (k : Int) < x0 + x1) → Hid (turnF f (x0, x1) b (k + 1) = turnF f (x0, x1) b k) := fun hno => by
        show _ = _
        funext n
        unfold turnF
        by_cases h1 : innB (x0, x1) n = true ∧ n < (k : Int)
        · rw [if_pos ⟨h1.1, by omega⟩, if_pos h1]
        · rw [if_neg h1, if_neg]
          rintro ⟨h2, h3⟩
          have := innB_iff.1 h2
          unfold inn en at this
          simp only [] at this
          exact h1 ⟨h2, by omega⟩
      by_cases h1 : x0 ≤ (k : Int)
      · by_cases h2 : (k : Int) < x0 + x1
        · have HS : Hid ((bits (turnF f (x0, x1) b k)).setIfInBounds k (.bool b) = bits (turnF f (x0, x1) b (k + 1))) := by
            show _ = _
            rw [bits_set]
            congr 1
            funext n
            unfold turnF
            by_cases h3 : n = (k : Int)
            · rw [if_pos h3, if_pos]
              refine ⟨innB_iff.2 ?_, by omega⟩
              unfold inn en; simp only []; omega
            · rw [if_neg h3]
              by_cases h4 : innB (x0, x1) n = true ∧ n < (k : Int)
              · rw [if_pos h4, if_pos ⟨h4.1, by omega⟩]
              · rw [if_neg h4, if_neg]
                rintro ⟨h5, h6⟩
                exact h4 ⟨h5, by omega⟩
          have hf : wr.frozen? ⟨r, k, none⟩ = false := (HV.out.blk (i := 0) rfl).frozen k
          obtain ⟨u, hu⟩ : ∃ u, u = turnF f (x0, x1) b k k := ⟨_, rfl⟩
          have hc := ref_cell HV.out (i := 0) rfl k hkl
          rw [← hu] at hc
          clear hu
          have b1 : decide (x0 ≤ (k : Int)) = true := decide_eq_true h1
          have b2 : decide ((k : Int) < x0 + x1) = true := decide_eq_true h2
          clear hin
          go_wp2_with fail
          go_roundw
          case rel =>
            refine ⟨k + 1, by omega, by go_num, ?_⟩
            have := HV.out.set k (.bool b)
            rw [HS.out] at this
            exact this
          case measure => simp [intOf]; omega
        · have HS := hin (by omega)
          have b1 : decide (x0 ≤ (k : Int)) = true := decide_eq_true h1
          have b2 : decide ((k : Int) < x0 + x1) = false := decide_eq_false h2
          clear hin
          go_wp2_with fail
          go_roundw
          case rel => exact ⟨k + 1, by omega, by go_num, by rw [HS.out]; exact HV⟩
          case measure => simp [intOf]; omega
      · have HS := hin (by omega)
        have b1 : decide (x0 ≤ (k : Int)) = false := decide_eq_false h1
        clear hin
        go_wp2_with fail
        go_roundw
        case rel => exact ⟨k + 1, by omega, by go_num, by rw [HS.out]; exact HV⟩
        case measure => simp [intOf]; omega
    · obtain rfl : k = 200 := by omega
      go_wp2
      (try simp only [Exit.inBlock, Exit.then])
      refine bodyPost_end (results_none rfl _ _ _) rfl ?_
      exact ⟨⟨_, rfl⟩, HV.out.drop [refA _ _] _⟩
end Go.Proofs.Ytelkanfmhfopnaa

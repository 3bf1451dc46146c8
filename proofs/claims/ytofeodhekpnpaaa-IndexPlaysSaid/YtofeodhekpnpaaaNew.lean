/- The walk of index.New. -/
import Derived.Test.YtofeodhekpnpaaaIdx
import Derived.Laws.OwnMore
namespace Go.Proofs.Ytofeodhekpnpaaa
open Go.RowKit Go.LawEnd

theorem infoPlace : (Try.prog.info? 35).map (fun i => (i.zero, i.size, i.bytes)) = some (some (.agg #[.int .i64 0, .bool false]), 2, 16) := by kernel_rfl
/-- the places while they are laid -/
def laid_ (n k : Nat) : List (Int × Bool) := List.replicate k (-1, false) ++ List.replicate (n - k) (0, false)
theorem laid_length (n k : Nat) (h : k ≤ n) : (laid_ n k).length = n := by simp [laid_]; omega
theorem laid_set (n k : Nat) (h : k < n) : (laid_ n k).set k (-1, false) = laid_ n (k + 1) := by
  unfold laid_
  rw [List.set_append_right _ _ (by simp), show n - k = (n - (k + 1)) + 1 by omega, List.replicate_succ]
  simp [List.replicate_succ']
theorem laid_get (n k : Nat) (h : k < n) : (laid_ n k)[k]? = some (0, false) := by
  unfold laid_
  rw [List.getElem?_append_right (by simp), List.length_replicate, Nat.sub_self, List.getElem?_replicate, if_pos (by omega)]
theorem pcs_replicate (n : Nat) : pcs (List.replicate n (0, false)) = (madeCells #[.int .i64 0, .bool false] (n * 2)).toList := by
  apply List.ext_getElem?
  intro j
  by_cases hj : j < n * 2
  · have hn : j / 2 < (List.replicate n ((0, false) : Int × Bool)).length := by simp; omega
    have hg := pcs_get (List.replicate n ((0, false) : Int × Bool)) (j / 2) hn
    simp only [List.getElem_replicate] at hg
    have hm : (madeCells #[.int .i64 0, .bool false] (n * 2)).toList[j]? = some (#[(.int .i64 0 : Value), .bool false][j % 2]!) := by simp [madeCells, hj]
    rw [hm]
    rcases Nat.mod_two_eq_zero_or_one j with h | h
    · rw [h, show j = j / 2 * 2 by omega, hg.1]; rfl
    · rw [h, show j = j / 2 * 2 + 1 by omega, hg.2]; rfl
  · rw [List.getElem?_eq_none (by rw [pcs_length]; simp; omega), List.getElem?_eq_none (by simp [size_madeCells]; omega)]
theorem blk_of_own {w : World} {B n g : Nat} {e : TypeId} {xs : List Value} (h : w.ownsRow B e 2 (.slice (some ⟨g, 0, none⟩) n n) n xs) : Blk w g e xs.toArray := by
  rcases h.2 with ⟨h0, _⟩ | ⟨g', cap, cur, e1, _, hg, _, _, hs, ht⟩
  · cases h0
  · cases e1
    have : cur.toList = xs := by rw [← ht, List.take_of_length_le (by simp [hs])]
    unfold Blk
    rw [hg, ← this]

structure NI (w wr : World) (x g b n k slots : Nat) : Prop where
  head : Blk wr x 62 #[.slice (some ⟨g, 0, none⟩) n n, .map (some b), .int .i64 (slots : Int)]
  row : Blk wr g 35 (pcs (laid_ n k)).toArray
  map : Map wr b 0 (fun _ => none)
  below : Below w.heap.size w wr

theorem NI.facts {w wr : World} {x g b n k slots : Nat} (h : NI w wr x g b n k slots) (hk : k < n) : wr.cell? ⟨x, 0, none⟩ = some (.slice (some ⟨g, 0, none⟩) n n) ∧ wr.cell? ⟨g, k * 2, none⟩ = some (.int .i64 0) ∧ wr.cell? ⟨g, k * 2 + 1, none⟩ = some (.bool false) ∧ wr.frozen? ⟨g, k * 2, none⟩ = false ∧ wr.frozen? ⟨g, k * 2 + 1, none⟩ = false := by
  have hll := laid_length n k (by omega)
  have hlt : k < (laid_ n k).length := by omega
  have hpg := pcs_get (laid_ n k) k hlt
  have hg := laid_get n k hk
  rw [List.getElem?_eq_getElem hlt] at hg
  injection hg with hg
  rw [hg] at hpg
  refine ⟨by simpa using h.head.cell 0, ?_, ?_, h.row.frozen _, h.row.frozen _⟩
  · rw [h.row.cell, List.getElem?_toArray, hpg.1]
  · rw [h.row.cell, List.getElem?_toArray, hpg.2]
theorem NI.below_ {w wr w2 : World} {x g b n k slots : Nat} (h : NI w wr x g b n k slots) (hb : Below wr.heap.size wr w2) : NI w w2 x g b n k slots :=
  ⟨h.head.below hb h.head.lt, h.row.below hb h.row.lt, h.map.below hb h.map.lt, h.below.trans (hb.mono h.below.size)⟩
theorem NI.put {w wr : World} {x g b n k slots : Nat} (h : NI w wr x g b n k slots) (hk : k < n) (hgl : w.heap.size ≤ g) : NI w ((wr.setCell ⟨g, k * 2, none⟩ (.int .i64 (-1))).setCell ⟨g, k * 2 + 1, none⟩ (.bool false)) x g b n (k + 1) slots := by
  have hxg : x ≠ g := Blk.ne_ h.head h.row (by decide)
  have hgb : g ≠ b := h.map.ne_blk h.row
  have hc : Ch (fun i => i = g) wr ((wr.setCell ⟨g, k * 2, none⟩ (.int .i64 (-1))).setCell ⟨g, k * 2 + 1, none⟩ (.bool false)) :=
    ((Ch.refl (fun i => i = g) wr).setCell (p := ⟨g, k * 2, none⟩) (.inl rfl) _).setCell (p := ⟨g, k * 2 + 1, none⟩) (.inl rfl) _
  refine ⟨h.head.ch hc hxg, ?_, h.map.ch hc (fun e => hgb e.symm), (h.below.setCell (p := ⟨g, k * 2, none⟩) hgl _).setCell (p := ⟨g, k * 2 + 1, none⟩) hgl _⟩
  have hs := (h.row.set_ (k * 2) (.int .i64 (-1))).set_ (k * 2 + 1) (.bool false)
  have hp := pcs_set (laid_ n k) k (by rw [laid_length n k (by omega)]; exact hk) (-1, false)
  rw [laid_set n k hk] at hp
  rw [← hp]
  simpa using hs

set_option maxHeartbeats 1600000 in
theorem new_yes (n slots : Nat) (w : World) (h1 : 1 ≤ n) (h2 : n ≤ 4096) (h3 : 1 ≤ slots) (h4 : slots ≤ 1024) :
    Calls Try.prog 9 #[.int .i64 (n : Int), .int .i64 (slots : Int)] w fun e w' => ∃ (x : Nat) (g : Rowd) (b : Nat), e = .returned (.tuple #[.pointer (some ⟨x, 0, none⟩), .int .i64 0]) ∧ w.heap.size ≤ x ∧ w.heap.size ≤ g ∧ w.heap.size ≤ b ∧ Idx w' x g b 0 (List.replicate n (-1, false)) (fun _ => none) slots ∧ Below w.heap.size w w' := by
  obtain ⟨i0, hi, hz0, hz1, hz2⟩ := info_parts infoPlace
  have hmm := @run_makeMap Try.prog
  go_enter Try.func9, Try.ntmps9
  go_wp2_with (at_make; refine wpList_make_full _ rfl _ _ 51 rfl w.heap.size 35 i0 (.agg #[.int .i64 0, .bool false]) 2 Try.underlying51 hi hz0 hz1 .i64 .i64 _ _ n rfl rfl rfl rfl ?d1 ?d2 (Nat.le_refl _) ?_)
  case d1 => rw [hz2]; omega
  case d2 => unfold maxLen; omega
  intro w1 ho1 hg1
  obtain ⟨g, hgd⟩ : ∃ g, g = w.heap.size := ⟨_, rfl⟩
  rw [← hgd] at ho1
  rw [← hgd]
  have hgl : w.heap.size ≤ g := by omega
  clear hgd
  have hrow := blk_of_own ho1
  have hlt := hrow.lt
  have hs1 : w.heap.size ≤ w1.heap.size := hg1.size
  have HN : Hid (NI w ((w1.alloc (.map #[] 0)).alloc (.cells #[.slice (some ⟨g, 0, none⟩) n n, .map (some w1.heap.size), .int .i64 (slots : Int)] 62)) (w1.heap.size + 1) g w1.heap.size n 0 slots) := by
    refine ⟨?_, ?_, ?_, ?_⟩
    · have := Blk.new (w1.alloc (.map #[] 0)) 62 #[.slice (some ⟨g, 0, none⟩) n n, .map (some w1.heap.size), .int .i64 (slots : Int)]
      simpa using this
    · have e : laid_ n 0 = List.replicate n (0, false) := by simp [laid_]
      rw [e, pcs_replicate]
      exact (hrow.alloc _).alloc _
    · exact (MapAt.made w1 _ _ _).of_block (Below.heap_alloc _ _ _ (by simp))
    · have hb1 : Below w.heap.size w w1 := ⟨hg1.os, hg1.tape, hg1.output, hg1.size, fun k hk => hg1.block k hk (by simp)⟩
      exact (hb1.alloc hs1 _).alloc (by simp; omega) _
  obtain ⟨b, hbd⟩ : ∃ b, b = w1.heap.size := ⟨_, rfl⟩
  obtain ⟨x, hxd⟩ : ∃ x, x = w1.heap.size + 1 := ⟨_, rfl⟩
  have hbl : w.heap.size ≤ b := by omega
  have hxl : w.heap.size ≤ x := by omega
  clear ho1 hg1 hrow hlt
  go_wp2_with fail
  rw [← hxd, ← hbd] at HN
  rw [← hxd]
  rw [← hbd]
  clear hxd hbd
  go_loopw [33] (fun i wr => ∃ k : Nat, k ≤ n ∧ i = .int .i64 k ∧ NI w wr x g b n k slots) (fun i _ => n - (intOf i).toNat)
  case atStart => exact ⟨0, by omega, rfl, HN.out⟩
  case round =>
    clear HN
    obtain ⟨k, hk, rfl, HI⟩ := hrel
    by_cases hkn : k < n
    · have HD : Hid (NI w wr.drew x g b n k slots) := (show _ from ⟨HI.head, HI.row, HI.map.of_block rfl, Below.drew HI.below⟩)
      obtain ⟨c0, _⟩ := HI.facts hkn
      clear HI
      go_wp2
      go_region_with (first
        | (refine (none_any _).mono ?_; rintro e w2 ⟨rfl, hb2⟩; have HD2 := Lib.hid (HD.out.below_ hb2); obtain ⟨d0, e0, e1, f0, f1⟩ := HD2.out.facts hkn; clear hb2)
        | fail)
      all_goals go_wp2
      all_goals go_roundw
      all_goals first
        | exact ⟨k + 1, by omega, by go_num, HD2.out.put hkn hgl⟩
        | (simp [intOf]; omega)
    · have hkn2 : k = n := by omega
      subst hkn2
      have HJ := Lib.hid HI
      clear HI
      go_wp2
      go_ret2
      refine ⟨x, ⟨g, k, []⟩, b, rfl, hxl, hgl, hbl, ⟨?_, ?_, HJ.out.map⟩, HJ.out.below⟩
      · simpa using HJ.out.head
      · have e : laid_ k k = List.replicate k (-1, false) := by simp [laid_]
        have := HJ.out.row
        rw [e] at this
        simpa using this

theorem new_no (n m : Int) (w : World) (h : n < 1 ∨ 4096 < n ∨ m < 1 ∨ 1024 < m) :
    Calls Try.prog 9 #[.int .i64 n, .int .i64 m] w fun e w' => e = .returned (.tuple #[.pointer none, .int .i64 24]) ∧ w = w' := by
  by_cases h1 : n < 1
  · clear h
    go_enter Try.func9, Try.ntmps9
    go_wp2
    go_ret2
    exact ⟨rfl, rfl⟩
  · by_cases h2 : 4096 < n
    · clear h
      go_enter Try.func9, Try.ntmps9
      go_wp2
      go_ret2
      exact ⟨rfl, rfl⟩
    · by_cases h3 : m < 1
      · clear h
        go_enter Try.func9, Try.ntmps9
        go_wp2
        go_ret2
        exact ⟨rfl, rfl⟩
      · have h4 : 1024 < m := by omega
        clear h
        go_enter Try.func9, Try.ntmps9
        go_wp2
        go_ret2
        exact ⟨rfl, rfl⟩
end Go.Proofs.Ytofeodhekpnpaaa

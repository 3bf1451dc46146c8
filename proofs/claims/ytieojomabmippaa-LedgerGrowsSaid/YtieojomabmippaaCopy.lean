/- The walk of Copy. -/
import Derived.Test.YtieojomabmippaaStep
import Derived.Test.YtieojomabmippaaLayC
import Derived.Deep.Onto
namespace Go.Proofs.Ytieojomabmippaa
open Go.RowKit Go.LawEnd Go.Shelf Go.Maps

theorem clone_any {w : World} {b m : Nat} {l : List Int} (h : SetW w b m l) : Calls Try.prog 26 #[.map (some b)] w fun e w' => e = .returned (.map (some w.heap.size)) ∧ SetW w' w.heap.size m l ∧ Below w.heap.size w w' := by
  obtain ⟨⟨D, ho, hd⟩, hs⟩ := h
  refine (AnyW.maps_Clone_owns cloneL 3 _ b m D w ho).mono ?_
  rintro e w' ⟨rfl, h1, _, h3⟩
  exact ⟨rfl, ⟨⟨D, h1, hd⟩, hs⟩, h3⟩
theorem sets_push2 {w0 w w' : World} {S : Nat → Prop} {R : List Atom} {m : Nat} {bs : List Nat} {Ss : List (List Int)} {l : List Int} (h : Hv w0 S (setsA m bs Ss :: R) w) (hb : Below w.heap.size w w') (hs : SetW w' w.heap.size m l) : Hv w0 S (setsA m (bs ++ [w.heap.size]) (Ss ++ [l]) :: R) w' := by
  obtain ⟨T, hT, hJ⟩ := Hv.use [setsA m bs Ss] R h
  have hlt : ∀ b ∈ bs, b < w.heap.size := fun b hb => hT.lt ((hT.out.2 b).2 hb)
  obtain ⟨⟨h1, h2, h3⟩, h4⟩ := hT.out
  refine hJ [setsA m (bs ++ [w.heap.size]) (Ss ++ [l])] _ ⟨fun b => b ∈ bs ++ [w.heap.size], Sep.one ⟨⟨by simp [h1], ?_, fun j c l' hc hl => ?_⟩, fun _ => Iff.rfl⟩, ⟨hb.os, hb.tape, hb.output, hb.size, fun k hk _ => hb.block k hk⟩, fun b hb => ?_⟩
  · refine List.nodup_append.2 ⟨h2, by simp, fun a ha c hc e => ?_⟩
    rw [List.mem_singleton] at hc
    have := hlt a ha
    omega
  · by_cases hj : j < bs.length
    · rw [List.getElem?_append_left hj] at hc
      rw [List.getElem?_append_left (by omega)] at hl
      have h5 := h3 j c l' hc hl
      exact h5.of_block (hb.block c h5.lt)
    · rw [List.getElem?_append_right (by omega)] at hc
      rw [List.getElem?_append_right (by omega)] at hl
      have hj0 : j - bs.length = 0 := by have := (List.getElem?_eq_some_iff.1 hc).1; simpa using this
      rw [hj0] at hc
      rw [← h1, hj0] at hl
      simp at hc hl
      subst hc
      subst hl
      exact hs
  · rcases List.mem_append.1 hb with hb | hb
    · exact .inl ((h4 b).2 hb)
    · rw [List.mem_singleton] at hb
      exact .inr (by omega)
set_option maxRecDepth 100000 in
set_option maxHeartbeats 6400000 in
theorem copy_any {x m : Nat} {L : Lg} {w : World} {T : Nat → Prop} (hn : Hid (L.sets.length ≤ 100000)) (h : Hid (Sep [lgA x m L] w T)) :
    Calls Try.prog 10 #[.pointer (some ⟨x, 0, none⟩)] w fun e w' => ∃ o : Nat, e = .returned (.pointer (some ⟨o, 0, none⟩)) ∧ Hv w No [lgA o m L] w' := by
  obtain ⟨A, c, bs0, k0, k1, k2, _⟩ := lg_cells (Hv.start h.out)
  obtain ⟨n, hnl⟩ : ∃ n, n = L.sets.length := ⟨_, rfl⟩
  have HN := Lib.hid hnl
  have HK2 : Hid (∀ W, Below w.heap.size w W → ∀ i (hi : i < L.sets.length), ∃ g b, A = some ⟨g, 0, none⟩ ∧ W.cell? ⟨g, i, none⟩ = some (.map (some b)) ∧ SetW W b m L.sets[i]) := fun W hW i hi => by
    obtain ⟨g, b, e, hc, _, hs⟩ := k2 i hi
    exact ⟨g, b, e, (hW.cell (p := ⟨g, i, none⟩) (block_lt hc)).trans hc, hs.of_block (hW.block b hs.lt)⟩
  have hk1 := block_lt k1
  rw [← hnl] at k1 hn
  have hn2 : n ≤ 100000 := hn.out
  clear k2 hnl h
  go_enter Try.func10, Try.ntmps10
  go_wp2_with fail
  obtain ⟨o, ho⟩ : ∃ y, y = w.heap.size := ⟨_, rfl⟩
  obtain ⟨V, hV⟩ : ∃ y, y = w.alloc (.cells #[.int .i64 L.blocks, .slice none 0 0] 63) := ⟨_, rfl⟩
  have hv := ((Hv.begin w).alloc 63 #[.int .i64 L.blocks, .slice none 0 0])
  rw [← hV, ← ho] at hv
  rw [← hV, ← ho]
  have hv2 : Hv w No [setsA m [] [], blkA o 63 #[.int .i64 L.blocks, .slice none 0 0]] V := by
    obtain ⟨S', hs, hf⟩ := hv
    exact ⟨S', ⟨fun _ => False, S', ⟨⟨rfl, List.nodup_nil, fun i b l hb _ => by simp at hb⟩, fun b => by simp⟩, hs, fun _ h => h.elim, fun b => by simp⟩, hf⟩
  have H0 : Hid (Hv w No [setsA m [] (L.sets.take 0), rowA (.slice none 0 0) 65 1 0 (([] : List Nat).map mv), blkA o 63 #[.int .i64 L.blocks, .slice none 0 0]] V) := (hv2.nilRow 65 1).pick [1, 0, 2]
  have k1' := (hv2.below.cell (p := ⟨x, 1, none⟩) hk1).trans k1
  clear hv hv2 hV ho k0 k1
  go_wp2_with fail
  go_loopw [19] (fun i wr => ∃ k : Nat, k ≤ n ∧ i = .int .i64 k ∧ ∃ v bs, Hv w No [setsA m bs (L.sets.take k), rowA v 65 1 k (bs.map mv), blkA o 63 #[.int .i64 L.blocks, v]] wr) (fun i _ => n - (vInt i).toNat)
  case atStart => exact ⟨0, by omega, rfl, _, [], H0.out⟩
  case round =>
    clear H0
    obtain ⟨k, hk, rfl, v, bs, hi⟩ := hrel
    obtain ⟨AF, cF, rfl⟩ := row_form (hi.row (i := 1) rfl)
    by_cases hkl : k < n
    · have hkl2 : k < L.sets.length := by rw [← HN.out]; exact hkl
      obtain ⟨g, sb, rfl, cg, _⟩ := HK2.out wr hi.below k hkl2
      have HSK : Hid (∀ W, Below w.heap.size w W → SetW W sb m L.sets[k]) := fun W hW => by
        obtain ⟨g', b', e, hc', hs'⟩ := HK2.out W hW k hkl2
        obtain ⟨g0, b0, e0, hc0, hs0⟩ := HK2.out wr hi.below k hkl2
        obtain ⟨g1, b1, e1, hc1, hs1⟩ := HK2.out w (Below.refl _ _) k hkl2
        cases e
        cases e1
        have h1 := (hi.below.cell (p := ⟨g, k, none⟩) (block_lt hc1)).trans hc1
        have h2 := (hW.cell (p := ⟨g, k, none⟩) (block_lt hc1)).trans hc1
        rw [cg] at h1
        rw [hc'] at h2
        cases h1
        cases h2
        exact hs'
      have HX : Hid (Hv w No [setsA m bs (L.sets.take k), rowA (.slice AF k cF) 65 1 k (bs.map mv), blkA o 63 #[.int .i64 L.blocks, .slice AF k cF]] wr.drew) := hi.drew
      have HKP : Hid (∀ (bs : List Nat) (Ss : List (List Int)) (A1 : Atom) (cs : Array Value) (W : World), Hv w No [setsA m bs Ss, A1, blkA o 63 cs] W → W.frozen? ⟨o, 1, none⟩ = false) := fun _ _ _ _ W hv => (hv.blk (i := 2) rfl).frozen 1
      clear hi
      go_wp2_with fail
      refine wp_region_noPanic ?_
      refine wp_region_held_drew (S := (fun W => W.frozen? ⟨o, 1, none⟩ = false)) (by kernel_rfl) (HKP.out _ _ _ _ _ HX.out) (fun hHeld => ?_)
      refine wpAnyH_take (i := 0) (v := ?v0) rfl (by kernel_rfl) (by kernel_rfl) (by kernel_rfl) (fun _ _ _ h => h) (Or.inl ⟨by rfl, ?hy0⟩) (by assumption) ?rest0
      case hy0 =>
        intro w hSw
        (try dsimp only at hSw)
        go_simp
        try with_reducible rfl
      try simp only [Act.put, List.getElem_toArray, List.getElem_cons_zero, List.setIfInBounds_toArray, List.set_cons_zero, List.set_cons_succ]
      refine wpAnyH_take (i := 1) (v := ?v1) rfl (by kernel_rfl) (by kernel_rfl) (by kernel_rfl) (fun _ _ _ h => h) (Or.inl ⟨by rfl, ?hy1⟩) (by assumption) ?rest1
      case hy1 =>
        intro w hSw
        (try dsimp only at hSw)
        go_simp
        try with_reducible rfl
      try simp only [Act.put, List.getElem_toArray, List.getElem_cons_zero, List.getElem_cons_succ, List.setIfInBounds_toArray, List.set_cons_zero, List.set_cons_succ]
      refine wpAnyH_take (i := 2) (v := ?v2) rfl (by kernel_rfl) (by kernel_rfl) (by kernel_rfl) (fun _ _ _ h => h) (Or.inl ⟨by rfl, ?hy2⟩) (by assumption) ?rest2
      case hy2 =>
        intro w hSw
        (try dsimp only at hSw)
        go_simp
        try with_reducible rfl
      try simp only [Act.put, List.getElem_toArray, List.getElem_cons_zero, List.getElem_cons_succ, List.setIfInBounds_toArray, List.set_cons_zero, List.set_cons_succ]
      refine wpAnyH_take (i := 3) (v := ?v3) rfl (by kernel_rfl) (by kernel_rfl) (by kernel_rfl) (fun _ _ _ h => h) (Or.inl ⟨by rfl, ?hy3⟩) (by assumption) ?rest3
      case hy3 =>
        intro w hSw
        (try dsimp only at hSw)
        go_simp
        try with_reducible rfl
      try simp only [Act.put, List.getElem_toArray, List.getElem_cons_zero, List.getElem_cons_succ, List.setIfInBounds_toArray, List.set_cons_zero, List.set_cons_succ]
      refine wpAnyH_take (i := 5) (v := ?v5) rfl (by kernel_rfl) (by kernel_rfl) (by kernel_rfl) (fun _ _ _ h => h) (Or.inl ⟨by rfl, ?hy5⟩) (by assumption) ?rest5
      case hy5 =>
        intro w hSw
        (try dsimp only at hSw)
        go_simp
        try with_reducible rfl
      try simp only [Act.put, List.getElem_toArray, List.getElem_cons_zero, List.getElem_cons_succ, List.setIfInBounds_toArray, List.set_cons_zero, List.set_cons_succ]
      refine wpAnyH_ready (rs := [4, 6]) (by kernel_rfl) (by simp) ?_
      refine AllReadyH.cons rfl (fun K hK => ?_) (AllReadyH.cons rfl (fun K hK => ?_) AllReadyH.nil)
      · have c1 := (HX.out.blk (i := 2) rfl).cell 1
        go_simp
        refine hK.out _ _ hHeld (fun hHeld2 => ?_)
        clear hK K c1
        try simp only [Act.put, List.getElem_toArray, List.getElem_cons_zero, List.getElem_cons_succ, List.setIfInBounds_toArray, List.set_cons_zero, List.set_cons_succ]
        refine wpAnyH_ready (rs := [6]) (by kernel_rfl) (by simp) ?_
        refine AllReadyH.cons rfl (fun K hK => ?_) AllReadyH.nil
        go_simp
        refine (clone_any (HSK.out _ HX.out.below)).mono ?_
        rintro e W1 ⟨rfl, hs1, hb1⟩
        have HX1 : Hid (Hv w No [setsA m (bs ++ [wr.drew.heap.size]) (L.sets.take (k + 1)), rowA (.slice AF k cF) 65 1 k (bs.map mv), blkA o 63 #[.int .i64 L.blocks, .slice AF k cF]] W1) := by
          have h1 := sets_push2 HX.out hb1 hs1
          rw [← List.take_succ_eq_append_getElem hkl2] at h1
          exact h1
        clear hs1 hb1
        obtain ⟨g2, cap2, W3, hE, hH⟩ := app_set (HX1.out.pick [1, 0, 2]) (by omega) wr.drew.heap.size
        have HE := Lib.hid hE
        have HX3 : Hid (Hv w No [setsA m (bs ++ [wr.drew.heap.size]) (L.sets.take (k + 1)), rowA (.slice (some ⟨g2, 0, none⟩) (k + 1) cap2) 65 1 (k + 1) ((bs ++ [wr.drew.heap.size]).map mv), blkA o 63 #[.int .i64 L.blocks, .slice AF k cF]] W3) := hH.pick [1, 0, 2]
        have HX4 : Hid (Hv w No [setsA m (bs ++ [wr.drew.heap.size]) (L.sets.take (k + 1)), rowA (.slice (some ⟨g2, 0, none⟩) (k + 1) cap2) 65 1 (k + 1) ((bs ++ [wr.drew.heap.size]).map mv), blkA o 63 #[.int .i64 L.blocks, .slice (some ⟨g2, 0, none⟩) (k + 1) cap2]] (W3.setCell ⟨o, 1, none⟩ (.slice (some ⟨g2, 0, none⟩) (k + 1) cap2))) := ((hH.pick [2, 1, 0]).set 1 (.slice (some ⟨g2, 0, none⟩) (k + 1) cap2)).pick [1, 2, 0]
        clear hE hH
        refine hK.out _ _ (HKP.out _ _ _ _ _ HX1.out) (fun hHeldc => ?_)
        clear hK K
        try simp only [Act.put, List.getElem_toArray, List.getElem_cons_zero, List.getElem_cons_succ, List.setIfInBounds_toArray, List.set_cons_zero, List.set_cons_succ]
        refine wpAnyH_ready (rs := [7]) (by kernel_rfl) (by simp) ?_
        refine AllReadyH.cons rfl (fun K hK => ?_) AllReadyH.nil
        go_simp
        refine hK.out _ _ (HKP.out _ _ _ _ _ (HX1.out.alloc_ _)) (fun hHeld3 => ?_)
        clear hK K
        try simp only [Act.put, List.getElem_toArray, List.getElem_cons_zero, List.getElem_cons_succ, List.setIfInBounds_toArray, List.set_cons_zero, List.set_cons_succ]
        refine wpAnyH_ready (rs := [8]) (by kernel_rfl) (by simp) ?_
        refine AllReadyH.cons rfl (fun K hK => ?_) AllReadyH.nil
        refine step_append_run rfl (.tmp 27) (.tmp 30) 61 rfl (v' := .slice (some ⟨g2, 0, none⟩) (k + 1) cap2) (w' := W3) ?_ ?_
        · exact HE.out
        refine hK.out _ _ (HKP.out _ _ _ _ _ HX3.out) (fun hHeld4 => ?_)
        clear hK K
        try simp only [Act.put, List.getElem_toArray, List.getElem_cons_zero, List.getElem_cons_succ, List.setIfInBounds_toArray, List.set_cons_zero, List.set_cons_succ]
        refine wpAnyH_take (i := 9) (v := ?vta9) rfl (by kernel_rfl) (by kernel_rfl) (by kernel_rfl) (fun _ _ _ h => h) (Or.inl ⟨by rfl, ?hyta9⟩) (by assumption) ?restta9
        case hyta9 =>
          intro w hSw
          (try dsimp only at hSw)
          go_simp
          try with_reducible rfl
        try simp only [Act.put, List.getElem_toArray, List.getElem_cons_zero, List.getElem_cons_succ, List.setIfInBounds_toArray, List.set_cons_zero, List.set_cons_succ]
        refine wpAnyH_take (i := 10) (v := ?vta10) rfl (by kernel_rfl) (by kernel_rfl) (by kernel_rfl) (fun _ _ _ h => h) (Or.inl ⟨by rfl, ?hyta10⟩) (by assumption) ?restta10
        case hyta10 =>
          intro w hSw
          (try dsimp only at hSw)
          go_simp
          try with_reducible rfl
        try simp only [Act.put, List.getElem_toArray, List.getElem_cons_zero, List.getElem_cons_succ, List.setIfInBounds_toArray, List.set_cons_zero, List.set_cons_succ]
        refine wpAnyH_ready (rs := [11]) (by kernel_rfl) (by simp) ?_
        refine AllReadyH.cons rfl (fun K hK => ?_) AllReadyH.nil
        have c5 := HKP.out _ _ _ _ _ HX3.out
        have c6 := (HX3.out.blk (i := 2) rfl).cell 1
        go_simp
        refine hK.out _ _ (HKP.out _ _ _ _ _ HX4.out) (fun hHeld5 => ?_)
        clear hK K
        refine wpAnyH_done (by kernel_rfl) ?_ _
        refine NoPanic.normal ?_
        clear hHeld hHeld2 hHeldc hHeld3 hHeld4 hHeld5 c5 c6 HKP HE
        go_wp2_with fail
        go_roundw
        case rel => exact ⟨k + 1, by omega, by go_num, _, _, HX4.out⟩
        case measure => simp [vInt]; omega
      · go_simp
        refine (clone_any (HSK.out _ HX.out.below)).mono ?_
        rintro e W1 ⟨rfl, hs1, hb1⟩
        have HX1 : Hid (Hv w No [setsA m (bs ++ [wr.drew.heap.size]) (L.sets.take (k + 1)), rowA (.slice AF k cF) 65 1 k (bs.map mv), blkA o 63 #[.int .i64 L.blocks, .slice AF k cF]] W1) := by
          have h1 := sets_push2 HX.out hb1 hs1
          rw [← List.take_succ_eq_append_getElem hkl2] at h1
          exact h1
        clear hs1 hb1
        obtain ⟨g2, cap2, W3, hE, hH⟩ := app_set (HX1.out.pick [1, 0, 2]) (by omega) wr.drew.heap.size
        have HE := Lib.hid hE
        have HX3 : Hid (Hv w No [setsA m (bs ++ [wr.drew.heap.size]) (L.sets.take (k + 1)), rowA (.slice (some ⟨g2, 0, none⟩) (k + 1) cap2) 65 1 (k + 1) ((bs ++ [wr.drew.heap.size]).map mv), blkA o 63 #[.int .i64 L.blocks, .slice AF k cF]] W3) := hH.pick [1, 0, 2]
        have HX4 : Hid (Hv w No [setsA m (bs ++ [wr.drew.heap.size]) (L.sets.take (k + 1)), rowA (.slice (some ⟨g2, 0, none⟩) (k + 1) cap2) 65 1 (k + 1) ((bs ++ [wr.drew.heap.size]).map mv), blkA o 63 #[.int .i64 L.blocks, .slice (some ⟨g2, 0, none⟩) (k + 1) cap2]] (W3.setCell ⟨o, 1, none⟩ (.slice (some ⟨g2, 0, none⟩) (k + 1) cap2))) := ((hH.pick [2, 1, 0]).set 1 (.slice (some ⟨g2, 0, none⟩) (k + 1) cap2)).pick [1, 2, 0]
        clear hE hH
        refine hK.out _ _ (HKP.out _ _ _ _ _ HX1.out) (fun hHeldc => ?_)
        clear hK K
        try simp only [Act.put, List.getElem_toArray, List.getElem_cons_zero, List.getElem_cons_succ, List.setIfInBounds_toArray, List.set_cons_zero, List.set_cons_succ]
        refine wpAnyH_ready (rs := [4, 7]) (by kernel_rfl) (by simp) ?_
        refine AllReadyH.cons rfl (fun K hK => ?_) (AllReadyH.cons rfl (fun K hK => ?_) AllReadyH.nil)
        · have c1 := (HX1.out.blk (i := 2) rfl).cell 1
          go_simp
          refine hK.out _ _ hHeldc (fun hHeld2 => ?_)
          clear hK K c1
          try simp only [Act.put, List.getElem_toArray, List.getElem_cons_zero, List.getElem_cons_succ, List.setIfInBounds_toArray, List.set_cons_zero, List.set_cons_succ]
          refine wpAnyH_ready (rs := [7]) (by kernel_rfl) (by simp) ?_
          refine AllReadyH.cons rfl (fun K hK => ?_) AllReadyH.nil
          go_simp
          refine hK.out _ _ (HKP.out _ _ _ _ _ (HX1.out.alloc_ _)) (fun hHeld3 => ?_)
          clear hK K
          try simp only [Act.put, List.getElem_toArray, List.getElem_cons_zero, List.getElem_cons_succ, List.setIfInBounds_toArray, List.set_cons_zero, List.set_cons_succ]
          refine wpAnyH_ready (rs := [8]) (by kernel_rfl) (by simp) ?_
          refine AllReadyH.cons rfl (fun K hK => ?_) AllReadyH.nil
          refine step_append_run rfl (.tmp 27) (.tmp 30) 61 rfl (v' := .slice (some ⟨g2, 0, none⟩) (k + 1) cap2) (w' := W3) ?_ ?_
          · exact HE.out
          refine hK.out _ _ (HKP.out _ _ _ _ _ HX3.out) (fun hHeld4 => ?_)
          clear hK K
          try simp only [Act.put, List.getElem_toArray, List.getElem_cons_zero, List.getElem_cons_succ, List.setIfInBounds_toArray, List.set_cons_zero, List.set_cons_succ]
          refine wpAnyH_take (i := 9) (v := ?vtb9) rfl (by kernel_rfl) (by kernel_rfl) (by kernel_rfl) (fun _ _ _ h => h) (Or.inl ⟨by rfl, ?hytb9⟩) (by assumption) ?resttb9
          case hytb9 =>
            intro w hSw
            (try dsimp only at hSw)
            go_simp
            try with_reducible rfl
          try simp only [Act.put, List.getElem_toArray, List.getElem_cons_zero, List.getElem_cons_succ, List.setIfInBounds_toArray, List.set_cons_zero, List.set_cons_succ]
          refine wpAnyH_take (i := 10) (v := ?vtb10) rfl (by kernel_rfl) (by kernel_rfl) (by kernel_rfl) (fun _ _ _ h => h) (Or.inl ⟨by rfl, ?hytb10⟩) (by assumption) ?resttb10
          case hytb10 =>
            intro w hSw
            (try dsimp only at hSw)
            go_simp
            try with_reducible rfl
          try simp only [Act.put, List.getElem_toArray, List.getElem_cons_zero, List.getElem_cons_succ, List.setIfInBounds_toArray, List.set_cons_zero, List.set_cons_succ]
          refine wpAnyH_ready (rs := [11]) (by kernel_rfl) (by simp) ?_
          refine AllReadyH.cons rfl (fun K hK => ?_) AllReadyH.nil
          have c5 := HKP.out _ _ _ _ _ HX3.out
          have c6 := (HX3.out.blk (i := 2) rfl).cell 1
          go_simp
          refine hK.out _ _ (HKP.out _ _ _ _ _ HX4.out) (fun hHeld5 => ?_)
          clear hK K
          refine wpAnyH_done (by kernel_rfl) ?_ _
          refine NoPanic.normal ?_
          clear hHeld hHeld2 hHeldc hHeld3 hHeld4 hHeld5 c5 c6 HKP HE
          go_wp2_with fail
          go_roundw
          case rel => exact ⟨k + 1, by omega, by go_num, _, _, HX4.out⟩
          case measure => simp [vInt]; omega
        · go_simp
          refine hK.out _ _ (HKP.out _ _ _ _ _ (HX1.out.alloc_ _)) (fun hHeld3 => ?_)
          clear hK K
          try simp only [Act.put, List.getElem_toArray, List.getElem_cons_zero, List.getElem_cons_succ, List.setIfInBounds_toArray, List.set_cons_zero, List.set_cons_succ]
          have c1 : (W1.alloc (.cells #[.map (some wr.heap.size)] 65)).cell? ⟨o, 1, none⟩ = some (.slice AF k cF) := by
            have := ((HX1.out.alloc_ (.cells #[.map (some wr.heap.size)] 65)).blk (i := 2) rfl).cell 1
            simpa using this
          refine wpAnyH_ready (rs := [4]) (by kernel_rfl) (by simp) ?_
          refine AllReadyH.cons rfl (fun K hK => ?_) AllReadyH.nil
          go_simp
          refine hK.out _ _ hHeld3 (fun hHeld2 => ?_)
          clear hK K c1
          try simp only [Act.put, List.getElem_toArray, List.getElem_cons_zero, List.getElem_cons_succ, List.setIfInBounds_toArray, List.set_cons_zero, List.set_cons_succ]
          refine wpAnyH_ready (rs := [8]) (by kernel_rfl) (by simp) ?_
          refine AllReadyH.cons rfl (fun K hK => ?_) AllReadyH.nil
          refine step_append_run rfl (.tmp 27) (.tmp 30) 61 rfl (v' := .slice (some ⟨g2, 0, none⟩) (k + 1) cap2) (w' := W3) ?_ ?_
          · exact HE.out
          refine hK.out _ _ (HKP.out _ _ _ _ _ HX3.out) (fun hHeld4 => ?_)
          clear hK K
          try simp only [Act.put, List.getElem_toArray, List.getElem_cons_zero, List.getElem_cons_succ, List.setIfInBounds_toArray, List.set_cons_zero, List.set_cons_succ]
          refine wpAnyH_take (i := 9) (v := ?vtc9) rfl (by kernel_rfl) (by kernel_rfl) (by kernel_rfl) (fun _ _ _ h => h) (Or.inl ⟨by rfl, ?hytc9⟩) (by assumption) ?resttc9
          case hytc9 =>
            intro w hSw
            (try dsimp only at hSw)
            go_simp
            try with_reducible rfl
          try simp only [Act.put, List.getElem_toArray, List.getElem_cons_zero, List.getElem_cons_succ, List.setIfInBounds_toArray, List.set_cons_zero, List.set_cons_succ]
          refine wpAnyH_take (i := 10) (v := ?vtc10) rfl (by kernel_rfl) (by kernel_rfl) (by kernel_rfl) (fun _ _ _ h => h) (Or.inl ⟨by rfl, ?hytc10⟩) (by assumption) ?resttc10
          case hytc10 =>
            intro w hSw
            (try dsimp only at hSw)
            go_simp
            try with_reducible rfl
          try simp only [Act.put, List.getElem_toArray, List.getElem_cons_zero, List.getElem_cons_succ, List.setIfInBounds_toArray, List.set_cons_zero, List.set_cons_succ]
          refine wpAnyH_ready (rs := [11]) (by kernel_rfl) (by simp) ?_
          refine AllReadyH.cons rfl (fun K hK => ?_) AllReadyH.nil
          have c5 := HKP.out _ _ _ _ _ HX3.out
          have c6 := (HX3.out.blk (i := 2) rfl).cell 1
          go_simp
          refine hK.out _ _ (HKP.out _ _ _ _ _ HX4.out) (fun hHeld5 => ?_)
          clear hK K
          refine wpAnyH_done (by kernel_rfl) ?_ _
          refine NoPanic.normal ?_
          clear hHeld hHeld2 hHeldc hHeld3 hHeld4 hHeld5 c5 c6 HKP HE
          go_wp2_with fail
          go_roundw
          case rel => exact ⟨k + 1, by omega, by go_num, _, _, HX4.out⟩
          case measure => simp [vInt]; omega
    · obtain rfl : k = n := by omega
      have HXX : Hid (Hv w No [lgA o m L] wr) := by
        refine lg_close (R := []) (L := L) (v := .slice AF k cF) (bs := bs) ?_
        rw [← HN.out]
        have h1 := hi
        rw [HN.out, List.take_length] at h1
        rw [HN.out]
        exact h1.pick [2, 1, 0]
      clear hi
      go_wp2
      go_ret
      exact ⟨o, rfl, HXX.out⟩
end Go.Proofs.Ytieojomabmippaa

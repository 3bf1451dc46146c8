/- The walk of RingPlays. -/
import Derived.Test.YtpfhmkfeneejeaaDoes
namespace Go.Proofs.Ytpfhmkfeneejeaa
open Go.RowKit Go.LawEnd Go.Conc

theorem does_any {w wr : World} {p c x n : Nat} {q : List Int} {cl : Bool} (a z : Int) (hb : Hid (Both w wr p c x n q cl)) (hn : n ≤ 1024) (hcl : w.heap.size ≤ c) (hpl : w.heap.size ≤ p) :
    Calls Try.prog 25 #[.pointer (some ⟨p, 0, none⟩), .pointer (some ⟨x, 0, none⟩), .agg #[.int .i64 a, .int .i64 z]] wr (Alike w p c x n) := by
  by_cases h0 : a = 0
  · subst h0
    cases cl
    · by_cases hq : q.length < n
      · exact does_put z hb hq hn hcl
      · exact does_put_full z hb (by omega)
    · exact does_put_shut z hb
  · by_cases h1 : a = 1
    · subst h1
      cases q with
      | nil => exact does_take_none z hb
      | cons y q => exact does_take_some y z hb hn hcl
    · by_cases h2 : a = 2
      · subst h2
        exact does_close z hb hcl hpl
      · exact does_drain a z (by simpa using h0) (by simpa using h1) (by simpa using h2) hb hn hcl

def roomOf (cl : Bool) (n k : Nat) : Int := if cl then 0 else ((n - k : Nat) : Int)
theorem room_any {w : World} {p c n : Nat} {q : List Int} {cl : Bool} (hr : Hid (Ring 76 w p c n (ints q) cl)) (hq : q.length ≤ n) (hn : n ≤ 1024) :
    Calls Try.prog 22 #[.pointer (some ⟨p, 0, none⟩)] w fun e w' => e = .returned (.int .i64 (roomOf cl n q.length)) ∧ Below w.heap.size w w' := by
  cases cl
  · refine (RInt.room_open hr (by rw [ints_length]; exact hq) hn).mono ?_
    rintro e w' ⟨rfl, hb, _⟩
    exact ⟨by rw [ints_length]; rfl, hb⟩
  · refine (RInt.room_shut hr).mono ?_
    rintro e w' ⟨rfl, rfl⟩
    exact ⟨rfl, Below.refl _ _⟩
theorem ref_room_any {w : World} {B x n : Nat} {vL : Value} {q : List Int} {cl : Bool} (hr : Hid (Ref B w x n vL q cl)) (hq : q.length ≤ n) (hn : n ≤ 1024) :
    Calls Try.prog 26 #[.pointer (some ⟨x, 0, none⟩)] w fun e w' => e = .returned (.int .i64 (roomOf cl n q.length)) ∧ Below w.heap.size w w' := by
  cases cl
  · refine (ref_room_open hr hq hn).mono ?_
    rintro e w' ⟨rfl, hb, _⟩
    exact ⟨rfl, hb⟩
  · refine (ref_room_shut hr).mono ?_
    rintro e w' ⟨rfl, rfl⟩
    exact ⟨rfl, Below.refl _ _⟩

theorem wpAnyH_mono {P : Program} {md : Region.Mode} {ops : Array Oper} {Q : Exit → Act → World → Prop} {S S' : World → Prop} (hs : ∀ W, S' W → S W) :
    ∀ (fuel : Nat) (listed : Array Bool) (a : Act) (w : World), wpAnyH P md ops Q S' fuel listed a w → wpAnyH P md ops Q S fuel listed a w
  | 0, _, _, _, h => h
  | fuel + 1, _, _, _, h => ⟨h.1, fun i hi => wpOp_mono (fun _ _ h' => ⟨hs _ h'.1, wpAnyH_mono hs fuel _ _ _ h'.2⟩) (h.2 i hi)⟩

set_option maxRecDepth 100000 in
set_option maxHeartbeats 3200000 in
theorem plays_main (A : Option Addr) (m cp n : Nat) (w : World) (h1 : 1 ≤ n) (h2 : n ≤ 1024) (hm : m ≤ 100)
    (hops : Hid (∀ k, k < m → ∃ b off a z, A = some ⟨b, off, none⟩ ∧ b < w.heap.size ∧ w.cell? ⟨b, off + k * 2, none⟩ = some (.int .i64 a) ∧ w.cell? ⟨b, off + k * 2 + 1, none⟩ = some (.int .i64 z))) :
    Calls Try.prog 7 #[.int .i64 (n : Int), .slice A m cp] w (Yes w) := by
  go_enter Try.func7, Try.ntmps7
  go_wp2_with fail
  refine (RInt.new_yes n w h1 h2).mono ?_
  rintro e w1 ⟨rfl, hr, hb, hsz⟩
  obtain ⟨p, hp⟩ : ∃ p, p = w.heap.size + 1 := ⟨_, rfl⟩
  obtain ⟨c, hc⟩ : ∃ c, c = w.heap.size := ⟨_, rfl⟩
  rw [← hp, ← hc] at hr
  rw [← hp]
  have hpl : w.heap.size ≤ p := by omega
  have hcl : w.heap.size ≤ c := by omega
  have HX0 : Hid (Both w (w1.alloc (.cells #[.slice none 0 0, .int .i64 (n : Int), .bool false] 59)) p c w1.heap.size n [] false) := by
    have ha := (Below.refl w1.heap.size w1).alloc (Nat.le_refl _) (.cells #[.slice none 0 0, .int .i64 (n : Int), .bool false] 59)
    exact ⟨hr.below ha hr.plt hr.clt, ⟨_, Blk.new _ _ _, Win.nil_ _ _ _, hb.size⟩, keep_call hb ha, by simp⟩
  clear hr hb hp hc hsz
  go_wp2_with fail
  go_loopw [8] (fun i wr => ∃ k : Nat, k ≤ m ∧ i = .int .i64 k ∧ ∃ q cl, Both w wr p c w1.heap.size n q cl) (fun i _ => m - (intOf i).toNat)
  case atStart => exact ⟨0, by omega, rfl, [], false, HX0.out⟩
  case round =>
    clear HX0
    obtain ⟨k, hk, rfl, q, cl, HI⟩ := hrel
    have HB := Lib.hid HI
    clear HI
    by_cases hkm : k < m
    · obtain ⟨b, off, a, z, rfl, hbl, ha, hz⟩ := hops.out k hkm
      have ha' : wr.cell? ⟨b, off + k * 2, none⟩ = some (.int .i64 a) := by rw [HB.out.below.cell (p := ⟨b, off + k * 2, none⟩) hbl]; exact ha
      have hz' : wr.cell? ⟨b, off + k * 2 + 1, none⟩ = some (.int .i64 z) := by rw [HB.out.below.cell (p := ⟨b, off + k * 2 + 1, none⟩) hbl]; exact hz
      have HB' : Hid (Both w wr.drew p c w1.heap.size n q cl) := HB.out.on (Below.drew (Below.refl _ _))
      have KEEP : Hid (∀ W : World, Below w.heap.size w W → Below w.heap.size w W ∧ (W.cell? ⟨b, off + k * 2, none⟩ = some (.int .i64 a) ∧ W.cell? ⟨b, off + k * 2 + 1, none⟩ = some (.int .i64 z))) := fun W hW =>
        ⟨hW, by rw [hW.cell (p := ⟨b, off + k * 2, none⟩) hbl]; exact ha, by rw [hW.cell (p := ⟨b, off + k * 2 + 1, none⟩) hbl]; exact hz⟩
      clear ha hz ha' hz' HB
      go_wp2_with fail
      refine wp_region_noPanic ?_
      refine wp_region_held_drew (S := (fun W => Below w.heap.size w W ∧ (W.cell? ⟨b, off + k * 2, none⟩ = some (.int .i64 a) ∧ W.cell? ⟨b, off + k * 2 + 1, none⟩ = some (.int .i64 z)))) (by kernel_rfl) (KEEP.out _ HB'.out.below) (fun hHeld => ?_)
      refine wpAnyH_take (i := 0) (v := ?v0) rfl (by kernel_rfl) (by kernel_rfl) (by kernel_rfl) (fun _ _ _ h => h) (Or.inl ⟨by rfl, ?hy0⟩) (by assumption) ?rest0
      case hy0 =>
        intro w hSw
        (try dsimp only at hSw)
        go_simp
        try with_reducible rfl
      simp only [Act.put, List.getElem_toArray, List.getElem_cons_zero, List.setIfInBounds_toArray, List.set_cons_zero, List.set_cons_succ]
      refine wpAnyH_take (i := 1) (v := ?v1) rfl (by kernel_rfl) (by kernel_rfl) (by kernel_rfl) (fun _ _ _ h => h) (Or.inl ⟨by rfl, ?hy1⟩) (by assumption) ?rest1
      case hy1 =>
        intro w hSw
        (try dsimp only at hSw)
        go_simp
        try with_reducible rfl
      simp only [Act.put, List.getElem_toArray, List.getElem_cons_zero, List.getElem_cons_succ, List.setIfInBounds_toArray, List.set_cons_zero, List.set_cons_succ]
      refine wpAnyH_take (i := 2) (v := ?v2) rfl (by kernel_rfl) (by kernel_rfl) (by kernel_rfl) (fun _ _ _ h => h) (Or.inl ⟨by rfl, ?hy2⟩) (by assumption) ?rest2
      case hy2 =>
        intro w hSw
        (try dsimp only at hSw)
        go_simp
        try with_reducible rfl
      simp only [Act.put, List.getElem_toArray, List.getElem_cons_zero, List.getElem_cons_succ, List.setIfInBounds_toArray, List.set_cons_zero, List.set_cons_succ]
      refine wpAnyH_take (i := 3) (v := ?v3) rfl (by kernel_rfl) (by kernel_rfl) (by kernel_rfl) (fun _ _ _ h => h) (Or.inl ⟨by rfl, ?hy3⟩) (by assumption) ?rest3
      case hy3 =>
        intro w hSw
        (try dsimp only at hSw)
        go_simp
        try with_reducible rfl
      simp only [Act.put, List.getElem_toArray, List.getElem_cons_zero, List.getElem_cons_succ, List.setIfInBounds_toArray, List.set_cons_zero, List.set_cons_succ]
      refine wpAnyH_take (i := 4) (v := ?v4) rfl (by kernel_rfl) (by kernel_rfl) (by kernel_rfl) (fun _ _ _ h => h) (Or.inl ⟨by rfl, ?hy4⟩) (by assumption) ?rest4
      case hy4 =>
        intro w hSw
        (try dsimp only at hSw)
        go_simp
        try with_reducible rfl
      simp only [Act.put, List.getElem_toArray, List.getElem_cons_zero, List.getElem_cons_succ, List.setIfInBounds_toArray, List.set_cons_zero, List.set_cons_succ]
      refine wpAnyH_take (i := 5) (v := ?v5) rfl (by kernel_rfl) (by kernel_rfl) (by kernel_rfl) (fun _ _ _ h => h) (Or.inl ⟨by rfl, ?hy5⟩) (by assumption) ?rest5
      case hy5 =>
        intro w hSw
        (try dsimp only at hSw)
        go_simp
        try with_reducible rfl
      simp only [Act.put, List.getElem_toArray, List.getElem_cons_zero, List.getElem_cons_succ, List.setIfInBounds_toArray, List.set_cons_zero, List.set_cons_succ]
      refine wpAnyH_ready (rs := [6]) (by kernel_rfl) (by simp) ?_
      refine AllReadyH.cons rfl (fun K hK => ?_) AllReadyH.nil
      go_simp
      refine (does_any a z HB' h2 hcl hpl).mono ?_
      rintro e w3 ⟨rfl, q3, cl3, hb3⟩
      have HX3 := Lib.hid hb3
      have hlen3 := hb3.len
      obtain ⟨vL, hv⟩ := hb3.ref
      obtain ⟨AL, cL, rfl⟩ := hv.form
      have HK3 : Hid (∀ W : World, Below w3.heap.size w3 W → W.cell? ⟨w1.heap.size, 0, none⟩ = some (.slice AL q3.length cL) ∧ W.cell? ⟨w1.heap.size, 2, none⟩ = some (.bool cl3)) := fun W hW => by
        have h := hv.below hW (Nat.le_refl _)
        exact ⟨by simpa using h.head.cell 0, by simpa using h.head.cell 2⟩
      have HV3 := Lib.hid hv
      clear hb3 hv
      refine hK.out _ _ (KEEP.out _ HX3.out.below) (fun hHeld => ?_)
      clear hK K
      refine wpAnyH_mono (S' := (fun W => Below w3.heap.size w3 W ∧ (W.cell? ⟨w1.heap.size, 0, none⟩ = some (.slice AL q3.length cL) ∧ W.cell? ⟨w1.heap.size, 2, none⟩ = some (.bool cl3)))) (fun W hW => KEEP.out W (keep_call HX3.out.below hW.1)) _ _ _ _ ?_
      have hHeld2 : Below w3.heap.size w3 w3 ∧ (w3.cell? ⟨w1.heap.size, 0, none⟩ = some (.slice AL q3.length cL) ∧ w3.cell? ⟨w1.heap.size, 2, none⟩ = some (.bool cl3)) := ⟨Below.refl _ _, HK3.out _ (Below.refl _ _)⟩
      clear hHeld
      refine wpAnyH_take (i := 7) (v := ?v7) rfl (by kernel_rfl) (by kernel_rfl) (by kernel_rfl) (fun _ _ _ h => h) (Or.inl ⟨by rfl, ?hy7⟩) (by assumption) ?rest7
      case hy7 =>
        intro w hSw
        (try dsimp only at hSw)
        go_simp
        try with_reducible rfl
      simp only [Act.put, List.getElem_toArray, List.getElem_cons_zero, List.getElem_cons_succ, List.setIfInBounds_toArray, List.set_cons_zero, List.set_cons_succ]
      refine wpAnyH_take (i := 8) (v := ?v8) rfl (by kernel_rfl) (by kernel_rfl) (by kernel_rfl) (fun _ _ _ h => h) (Or.inl ⟨by rfl, ?hy8⟩) (by assumption) ?rest8
      case hy8 =>
        intro w hSw
        (try dsimp only at hSw)
        go_simp
        try with_reducible rfl
      simp only [Act.put, List.getElem_toArray, List.getElem_cons_zero, List.getElem_cons_succ, List.setIfInBounds_toArray, List.set_cons_zero, List.set_cons_succ]
      refine wpAnyH_take (i := 9) (v := ?v9) rfl (by kernel_rfl) (by kernel_rfl) (by kernel_rfl) (fun _ _ _ h => h) (Or.inl ⟨by rfl, ?hy9⟩) (by assumption) ?rest9
      case hy9 =>
        intro w hSw
        (try dsimp only at hSw)
        go_simp
        try with_reducible rfl
      simp only [Act.put, List.getElem_toArray, List.getElem_cons_zero, List.getElem_cons_succ, List.setIfInBounds_toArray, List.set_cons_zero, List.set_cons_succ]
      refine wpAnyH_take (i := 11) (v := ?v11) rfl (by kernel_rfl) (by kernel_rfl) (by kernel_rfl) (fun _ _ _ h => h) (Or.inl ⟨by rfl, ?hy11⟩) (by assumption) ?rest11
      case hy11 =>
        intro w hSw
        (try dsimp only at hSw)
        go_simp
        try with_reducible rfl
      simp only [Act.put, List.getElem_toArray, List.getElem_cons_zero, List.getElem_cons_succ, List.setIfInBounds_toArray, List.set_cons_zero, List.set_cons_succ]
      refine wpAnyH_take (i := 12) (v := ?v12) rfl (by kernel_rfl) (by kernel_rfl) (by kernel_rfl) (fun _ _ _ h => h) (Or.inl ⟨by rfl, ?hy12⟩) (by assumption) ?rest12
      case hy12 =>
        intro w hSw
        (try dsimp only at hSw)
        go_simp
        try with_reducible rfl
      simp only [Act.put, List.getElem_toArray, List.getElem_cons_zero, List.getElem_cons_succ, List.setIfInBounds_toArray, List.set_cons_zero, List.set_cons_succ]
      refine wpAnyH_take (i := 13) (v := ?v13) rfl (by kernel_rfl) (by kernel_rfl) (by kernel_rfl) (fun _ _ _ h => h) (Or.inl ⟨by rfl, ?hy13⟩) (by assumption) ?rest13
      case hy13 =>
        intro w hSw
        (try dsimp only at hSw)
        go_simp
        try with_reducible rfl
      simp only [Act.put, List.getElem_toArray, List.getElem_cons_zero, List.getElem_cons_succ, List.setIfInBounds_toArray, List.set_cons_zero, List.set_cons_succ]
      refine wpAnyH_take (i := 14) (v := ?v14) rfl (by kernel_rfl) (by kernel_rfl) (by kernel_rfl) (fun _ _ _ h => h) (Or.inl ⟨by rfl, ?hy14⟩) (by assumption) ?rest14
      case hy14 =>
        intro w hSw
        (try dsimp only at hSw)
        go_simp
        try with_reducible rfl
      simp only [Act.put, List.getElem_toArray, List.getElem_cons_zero, List.getElem_cons_succ, List.setIfInBounds_toArray, List.set_cons_zero, List.set_cons_succ]
      refine wpAnyH_take (i := 15) (v := ?v15) rfl (by kernel_rfl) (by kernel_rfl) (by kernel_rfl) (fun _ _ _ h => h) (Or.inl ⟨by rfl, ?hy15⟩) (by assumption) ?rest15
      case hy15 =>
        intro w hSw
        (try dsimp only at hSw)
        go_simp
        try with_reducible rfl
      simp only [Act.put, List.getElem_toArray, List.getElem_cons_zero, List.getElem_cons_succ, List.setIfInBounds_toArray, List.set_cons_zero, List.set_cons_succ]
      refine wpAnyH_ready (rs := [10]) (by kernel_rfl) (by simp) ?_
      refine AllReadyH.cons rfl (fun K hK => ?_) AllReadyH.nil
      go_simp
      refine (RInt.len_any (Lib.hid HX3.out.ring)).mono ?_
      rintro e w' ⟨rfl, rfl⟩
      rw [ints_length]
      refine hK.out _ _ (hHeld2) (fun hHeld => ?_)
      clear hK K
      refine wpAnyH_take (i := 16) (v := ?v16) rfl (by kernel_rfl) (by kernel_rfl) (by kernel_rfl) (fun _ _ _ h => h) (Or.inl ⟨by rfl, ?hy16⟩) (by assumption) ?rest16
      case hy16 =>
        intro w hSw
        (try dsimp only at hSw)
        go_simp
        try with_reducible rfl
      simp only [Act.put, List.getElem_toArray, List.getElem_cons_zero, List.getElem_cons_succ, List.setIfInBounds_toArray, List.set_cons_zero, List.set_cons_succ]
      refine wpAnyH_take (i := 17) (v := ?v17) rfl (by kernel_rfl) (by kernel_rfl) (by kernel_rfl) (fun _ _ _ h => h) (Or.inl ⟨by rfl, ?hy17⟩) (by assumption) ?rest17
      case hy17 =>
        intro w hSw
        (try dsimp only at hSw)
        go_simp
        try with_reducible rfl
      simp only [Act.put, List.getElem_toArray, List.getElem_cons_zero, List.getElem_cons_succ, List.setIfInBounds_toArray, List.set_cons_zero, List.set_cons_succ]
      refine wpAnyH_take (i := 18) (v := ?v18) rfl (by kernel_rfl) (by kernel_rfl) (by kernel_rfl) (fun _ _ _ h => h) (Or.inl ⟨by rfl, ?hy18⟩) (by assumption) ?rest18
      case hy18 =>
        intro w hSw
        (try dsimp only at hSw)
        go_simp
        try with_reducible rfl
      simp only [Act.put, List.getElem_toArray, List.getElem_cons_zero, List.getElem_cons_succ, List.setIfInBounds_toArray, List.set_cons_zero, List.set_cons_succ]
      refine wpAnyH_take (i := 19) (v := ?v19) rfl (by kernel_rfl) (by kernel_rfl) (by kernel_rfl) (fun _ _ _ h => h) (Or.inl ⟨by rfl, ?hy19⟩) (by assumption) ?rest19
      case hy19 =>
        intro w hSw
        (try dsimp only at hSw)
        go_simp
        try with_reducible rfl
      simp only [Act.put, List.getElem_toArray, List.getElem_cons_zero, List.getElem_cons_succ, List.setIfInBounds_toArray, List.set_cons_zero, List.set_cons_succ]
      refine wpAnyH_take (i := 21) (v := ?v21) rfl (by kernel_rfl) (by kernel_rfl) (by kernel_rfl) (fun _ _ _ h => h) (Or.inl ⟨by rfl, ?hy21⟩) (by assumption) ?rest21
      case hy21 =>
        intro w hSw
        (try dsimp only at hSw)
        go_simp
        try with_reducible rfl
      simp only [Act.put, List.getElem_toArray, List.getElem_cons_zero, List.getElem_cons_succ, List.setIfInBounds_toArray, List.set_cons_zero, List.set_cons_succ]
      refine wpAnyH_ready (rs := [20]) (by kernel_rfl) (by simp) ?_
      refine AllReadyH.cons rfl (fun K hK => ?_) AllReadyH.nil
      go_simp
      refine (room_any (Lib.hid HX3.out.ring) hlen3 h2).mono ?_
      rintro e w4 ⟨rfl, hb4⟩
      have HX4 := Lib.hid (HX3.out.on hb4)
      have HV4 := Lib.hid (HV3.out.below hb4 (Nat.le_refl _))
      have HB4 := Lib.hid hb4
      clear hb4
      refine hK.out _ _ (⟨HB4.out, HK3.out _ HB4.out⟩) (fun hHeld => ?_)
      clear hK K
      refine wpAnyH_ready (rs := [22]) (by kernel_rfl) (by simp) ?_
      refine AllReadyH.cons rfl (fun K hK => ?_) AllReadyH.nil
      go_simp
      refine (ref_room_any HV4 hlen3 h2).mono ?_
      rintro e w5 ⟨rfl, hb5⟩
      have HX5 := Lib.hid (HX4.out.on hb5)
      have HB5 := Lib.hid (keep_call HB4.out hb5)
      clear hb5
      refine hK.out _ _ (⟨HB5.out, HK3.out _ HB5.out⟩) (fun hHeld => ?_)
      clear hK K
      refine wpAnyH_take (i := 23) (v := ?v23) rfl (by kernel_rfl) (by kernel_rfl) (by kernel_rfl) (fun _ _ _ h => h) (Or.inl ⟨by rfl, ?hy23⟩) (by assumption) ?rest23
      case hy23 =>
        intro w hSw
        (try dsimp only at hSw)
        go_simp
        try with_reducible rfl
      simp only [Act.put, List.getElem_toArray, List.getElem_cons_zero, List.getElem_cons_succ, List.setIfInBounds_toArray, List.set_cons_zero, List.set_cons_succ]
      refine wpAnyH_take (i := 24) (v := ?v24) rfl (by kernel_rfl) (by kernel_rfl) (by kernel_rfl) (fun _ _ _ h => h) (Or.inl ⟨by rfl, ?hy24⟩) (by assumption) ?rest24
      case hy24 =>
        intro w hSw
        (try dsimp only at hSw)
        go_simp
        try with_reducible rfl
      simp only [Act.put, List.getElem_toArray, List.getElem_cons_zero, List.getElem_cons_succ, List.setIfInBounds_toArray, List.set_cons_zero, List.set_cons_succ]
      refine wpAnyH_take (i := 25) (v := ?v25) rfl (by kernel_rfl) (by kernel_rfl) (by kernel_rfl) (fun _ _ _ h => h) (Or.inl ⟨by rfl, ?hy25⟩) (by assumption) ?rest25
      case hy25 =>
        intro w hSw
        (try dsimp only at hSw)
        go_simp
        try with_reducible rfl
      simp only [Act.put, List.getElem_toArray, List.getElem_cons_zero, List.getElem_cons_succ, List.setIfInBounds_toArray, List.set_cons_zero, List.set_cons_succ]
      refine wpAnyH_take (i := 26) (v := ?v26) rfl (by kernel_rfl) (by kernel_rfl) (by kernel_rfl) (fun _ _ _ h => h) (Or.inl ⟨by rfl, ?hy26⟩) (by assumption) ?rest26
      case hy26 =>
        intro w hSw
        (try dsimp only at hSw)
        go_simp
        try with_reducible rfl
      simp only [Act.put, List.getElem_toArray, List.getElem_cons_zero, List.getElem_cons_succ, List.setIfInBounds_toArray, List.set_cons_zero, List.set_cons_succ]
      refine wpAnyH_take (i := 28) (v := ?v28) rfl (by kernel_rfl) (by kernel_rfl) (by kernel_rfl) (fun _ _ _ h => h) (Or.inl ⟨by rfl, ?hy28⟩) (by assumption) ?rest28
      case hy28 =>
        intro w hSw
        (try dsimp only at hSw)
        go_simp
        try with_reducible rfl
      simp only [Act.put, List.getElem_toArray, List.getElem_cons_zero, List.getElem_cons_succ, List.setIfInBounds_toArray, List.set_cons_zero, List.set_cons_succ]
      refine wpAnyH_take (i := 29) (v := ?v29) rfl (by kernel_rfl) (by kernel_rfl) (by kernel_rfl) (fun _ _ _ h => h) (Or.inl ⟨by rfl, ?hy29⟩) (by assumption) ?rest29
      case hy29 =>
        intro w hSw
        (try dsimp only at hSw)
        go_simp
        try with_reducible rfl
      simp only [Act.put, List.getElem_toArray, List.getElem_cons_zero, List.getElem_cons_succ, List.setIfInBounds_toArray, List.set_cons_zero, List.set_cons_succ]
      refine wpAnyH_take (i := 30) (v := ?v30) rfl (by kernel_rfl) (by kernel_rfl) (by kernel_rfl) (fun _ _ _ h => h) (Or.inl ⟨by rfl, ?hy30⟩) (by assumption) ?rest30
      case hy30 =>
        intro w hSw
        (try dsimp only at hSw)
        go_simp
        try with_reducible rfl
      simp only [Act.put, List.getElem_toArray, List.getElem_cons_zero, List.getElem_cons_succ, List.setIfInBounds_toArray, List.set_cons_zero, List.set_cons_succ]
      refine wpAnyH_take (i := 31) (v := ?v31) rfl (by kernel_rfl) (by kernel_rfl) (by kernel_rfl) (fun _ _ _ h => h) (Or.inl ⟨by rfl, ?hy31⟩) (by assumption) ?rest31
      case hy31 =>
        intro w hSw
        (try dsimp only at hSw)
        go_simp
        try with_reducible rfl
      simp only [Act.put, List.getElem_toArray, List.getElem_cons_zero, List.getElem_cons_succ, List.setIfInBounds_toArray, List.set_cons_zero, List.set_cons_succ]
      refine wpAnyH_ready (rs := [27]) (by kernel_rfl) (by simp) ?_
      refine AllReadyH.cons rfl (fun K hK => ?_) AllReadyH.nil
      go_simp
      refine (RInt.closed_any (Lib.hid HX5.out.ring)).mono ?_
      rintro e w' ⟨rfl, rfl⟩
      refine hK.out _ _ (⟨HB5.out, HK3.out _ HB5.out⟩) (fun hHeld => ?_)
      clear hK K
      refine wpAnyH_take (i := 32) (v := ?v32) rfl (by kernel_rfl) (by kernel_rfl) (by kernel_rfl) (fun _ _ _ h => h) (Or.inl ⟨by rfl, ?hy32⟩) (by assumption) ?rest32
      case hy32 =>
        intro w hSw
        (try dsimp only at hSw)
        go_simp
        try with_reducible rfl
      simp only [Act.put, List.getElem_toArray, List.getElem_cons_zero, List.getElem_cons_succ, List.setIfInBounds_toArray, List.set_cons_zero, List.set_cons_succ]
      refine wpAnyH_take (i := 33) (v := ?v33) rfl (by kernel_rfl) (by kernel_rfl) (by kernel_rfl) (fun _ _ _ h => h) (Or.inl ⟨by rfl, ?hy33⟩) (by assumption) ?rest33
      case hy33 =>
        intro w hSw
        (try dsimp only at hSw)
        go_simp
        try with_reducible rfl
      simp only [Act.put, List.getElem_toArray, List.getElem_cons_zero, List.getElem_cons_succ, List.setIfInBounds_toArray, List.set_cons_zero, List.set_cons_succ]
      refine wpAnyH_done (by kernel_rfl) ?_ _
      refine NoPanic.normal ?_
      all_goals go_wp2
      all_goals go_roundw
      all_goals first
        | exact ⟨k + 1, by omega, by go_num, _, _, HX5.out⟩
        | (simp [intOf]; omega)
    · go_wp2_with fail
      refine (awake_any _).mono ?_
      rintro e w6 ⟨rfl, hb6⟩
      have HB6 := Lib.hid (keep_call HB.out.below hb6)
      clear hb6
      go_wp2
      go_ret
      exact ⟨rfl, HB6.out⟩
set_option maxRecDepth 100000 in
set_option maxHeartbeats 3200000 in
theorem plays_any (A : Option Addr) (m cp : Nat) (n : Int) (w : World) (hrow : m ≤ 9223372036854775807)
    (hops : Hid (∀ k, k < m → ∃ b off a z, A = some ⟨b, off, none⟩ ∧ b < w.heap.size ∧ w.cell? ⟨b, off + k * 2, none⟩ = some (.int .i64 a) ∧ w.cell? ⟨b, off + k * 2 + 1, none⟩ = some (.int .i64 z))) :
    Calls Try.prog 7 #[.int .i64 n, .slice A m cp] w (Yes w) := by
  by_cases hn : n < 1 ∨ 1024 < n
  · by_cases hn1 : n < 1
    · go_enter Try.func7, Try.ntmps7
      go_wp2_with fail
      refine (RInt.new_no n w hn).mono ?_
      rintro e w' ⟨rfl, rfl⟩
      go_wp2_with fail
      refine (awake_any _).mono ?_
      rintro e w6 ⟨rfl, hb6⟩
      go_wp2
      go_ret
      exact ⟨rfl, hb6⟩
    · have hn2 : 1024 < n := by omega
      go_enter Try.func7, Try.ntmps7
      go_wp2_with fail
      refine (RInt.new_no n w hn).mono ?_
      rintro e w' ⟨rfl, rfl⟩
      go_wp2_with fail
      refine (awake_any _).mono ?_
      rintro e w6 ⟨rfl, hb6⟩
      go_wp2
      go_ret
      exact ⟨rfl, hb6⟩
  · obtain ⟨k, rfl⟩ : ∃ k : Nat, n = k := ⟨n.toNat, by omega⟩
    have h1 : 1 ≤ k := by omega
    have h2 : k ≤ 1024 := by omega
    by_cases hm : m ≤ 100
    · exact plays_main A m cp k w h1 h2 hm hops
    · clear hn hops
      have hm' : 100 < m := by omega
      go_enter Try.func7, Try.ntmps7
      go_wp2_with fail
      refine (RInt.new_yes k w h1 h2).mono ?_
      rintro e w1 ⟨rfl, hr, hb, hsz⟩
      have HB1 := Lib.hid hb
      clear hr hb hsz
      go_wp2_with fail
      refine (awake_any _).mono ?_
      rintro e w6 ⟨rfl, hb6⟩
      have HB6 := Lib.hid (keep_call HB1.out hb6)
      clear hb6
      go_wp2
      go_ret
      exact ⟨rfl, HB6.out⟩
end Go.Proofs.Ytpfhmkfeneejeaa

/- The walk of shown: a sector as it was written last. -/
import Derived.Test.YtbfmgdkiigkioaaBackw
import Derived.BigRegion
import Derived.Shelf.Abstract
namespace Go.Proofs.Ytbfmgdkiigkioaa
open Go.RowKit Go.LawEnd Go.Shelf

attribute [local go_sem] Oper.semAt_some

theorem fill_new (T : TypeId) (w : World) : ∀ (vs : List Value) (cs : Array Value) (o : Nat), (w.alloc (.cells cs T)).setCells w.heap.size o vs = w.alloc (.cells (setMany cs o vs) T)
  | [], _, _ => rfl
  | v :: r, cs, o => by
    rw [World.setCells, World.setCell_alloc_new, fill_new T w r]
    rfl
/-- the one of l that is of sector s -/
def lastOf (l : List Wr) (s : Int) : Option Int := (l.reverse.find? fun p => p.1 == s).map (·.2)
def shownF (D : Dv) (s : Int) : Int := (lastOf D.opn s).getD (firmAt D s)
theorem store_wr {w : World} {b : Nat} {p : Wr} (h : w.there b 0 65) : (storeCells ⟨b, 0, none⟩ (wrC p)).run Try.prog w = .ok () (w.setCells b 0 (wrC p)) := by
  have h1 : (wrC p).length = 65 := wrC_length p
  have := run_storeCells_cells (P := Try.prog) b 0 (wrC p) 0 w (fun j hj => by simpa using (h j (by omega)).1) (fun j hj => by simpa using (h j (by omega)).2) (wrC_cell p)
  simpa using this
/-- what is laid and filled is laid as it is -/
theorem laid_wr (p : Wr) (w : World) : (storeCells ⟨w.heap.size, 0, none⟩ (wrC p)).run Try.prog (w.alloc (.cells (wrC (0, 0)).toArray 66)) = .ok () (w.alloc (.cells (wrC p).toArray 66)) := by
  rw [store_wr (blk_there (Blk.new w _ _) (by simp [wrC_length])), fill_new, setMany_all (by simp [wrC_length])]
section
variable {T : Nat → Prop} {d : Nat} {D : Dv} {w : World}
/-- what is there between two rounds -/
def ShI (w : World) (T : Nat → Prop) (P3 P4 P5 d B B0 : Nat) (s z : Int) (hd : Array Value) (vF vO vP : Value) (D : Dv) (xs : List (Nat × Wr)) (W : World) : Prop :=
  B0 ≤ W.heap.size ∧ (∀ x ∈ xs, x.2.1 ≠ s) ∧ Hv w T ([blkA P5 34 (markC z).toArray, blkA P3 3 #[.int .i64 s], blkA P4 34 (markC 0).toArray, blkA d 62 hd, blA vF D.firm, plA vP D.plan] ++ [itA B vO D.opn]) W
def ShX (w : World) (T : Nat → Prop) (P3 P4 P5 d B : Nat) (s : Int) (hd : Array Value) (vF vO vP : Value) (D : Dv) (xs : List (Nat × Wr)) (W : World) : Prop :=
  ∃ pre x, xs = pre ++ [x] ∧ (∀ x ∈ pre, x.2.1 ≠ s) ∧ x.2.1 = s ∧ Hv w T ([blkA P5 34 (markC x.2.2).toArray, blkA P3 3 #[.int .i64 s], blkA P4 34 (markC 0).toArray, blkA d 62 hd, blA vF D.firm, plA vP D.plan] ++ [itA B vO D.opn]) W
theorem shi_own {P3 P4 P5 d B B0 B1 : Nat} {s z : Int} {hd : Array Value} {vF vO vP : Value} (hB : w.heap.size ≤ B1) : OwnFrom B1 (ShI w T P3 P4 P5 d B B0 s z hd vF vO vP D) :=
  OwnFrom.and (fun _ _ _ _ hs hg _ => Nat.le_trans hs hg.size) (OwnFrom.and (pure_own _) (hv_own (fun xs X hX => by
    simp only [List.cons_append, List.nil_append, List.mem_cons, List.not_mem_nil, or_false] at hX
    rcases hX with rfl | rfl | rfl | rfl | rfl | rfl | rfl
    · exact celly_blk _ _ _ _
    · exact celly_blk _ _ _ _
    · exact celly_blk _ _ _ _
    · exact celly_blk _ _ _ _
    · exact celly_row _ _ _ _ _ _
    · exact celly_win _ _ _ _ _
    · exact celly_it _ _ _ _) hB))
theorem shx_own {P3 P4 P5 d B B1 : Nat} {s : Int} {hd : Array Value} {vF vO vP : Value} (hB : w.heap.size ≤ B1) : OwnFrom B1 (ShX w T P3 P4 P5 d B s hd vF vO vP D) := by
  rintro xs W W' row ⟨pre, x, h1, h2, h3, h4⟩ hg hr
  refine ⟨pre, x, h1, h2, h3, h4.turned (fun X hX => ?_) hB hg hr⟩
  simp only [List.cons_append, List.nil_append, List.mem_cons, List.not_mem_nil, or_false] at hX
  rcases hX with rfl | rfl | rfl | rfl | rfl | rfl | rfl
  · exact celly_blk _ _ _ _
  · exact celly_blk _ _ _ _
  · exact celly_blk _ _ _ _
  · exact celly_blk _ _ _ _
  · exact celly_row _ _ _ _ _ _
  · exact celly_win _ _ _ _ _
  · exact celly_it _ _ _ _
theorem last_none {l : List Wr} {s : Int} (h : ∀ x ∈ El l, x.2.1 ≠ s) : lastOf l s = none := by
  unfold lastOf
  rw [← El_snd, Option.map_eq_none_iff, List.find?_eq_none]
  intro p hp
  obtain ⟨x, hx, rfl⟩ := List.mem_map.1 hp
  simpa using h x hx
theorem last_some {l : List Wr} {s : Int} {pre : List (Nat × Wr)} {x : Nat × Wr} {k : Nat} (hk : pre ++ [x] = (El l).take k) (h : ∀ x ∈ pre, x.2.1 ≠ s) (hx : x.2.1 = s) : lastOf l s = some x.2.2 := by
  unfold lastOf
  rw [← El_snd, ← List.take_append_drop k (El l), ← hk, List.map_append, List.map_append, List.find?_append, List.find?_append]
  have h1 : (pre.map (·.2)).find? (fun p => p.1 == s) = none := by
    rw [List.find?_eq_none]
    intro p hp
    obtain ⟨y, hy, rfl⟩ := List.mem_map.1 hp
    simpa using h y hy
  rw [h1]
  simp [hx]
theorem shown_end {D1 P3 P4 P5 d B B1 : Nat} {s z : Int} {hd : Array Value} {vF vO vP : Value} {W : World} (hhd : hd = #[vF, vO, vP]) (hp : Pn D vO vP)
    (h : Hv w T ([blkA P5 34 (markC z).toArray, blkA P3 3 #[.int .i64 s], blkA P4 34 (markC 0).toArray, blkA d 62 hd, blA vF D.firm, plA vP D.plan] ++ [itA B vO D.opn]) W) (hD : B1 ≤ D1) (hB : w.heap.size ≤ B1) (hK : W.heap[D1]? = some (.deferred (some []))) :
    Hv w T [defA D1, blkA P5 34 (markC z).toArray, blkA P4 34 (markC 0).toArray, blkA P3 3 #[.int .i64 s], devA d D] W := by
  have h' := h.addDef (B := B1) (fun X hX => by
    simp only [List.cons_append, List.nil_append, List.mem_cons, List.not_mem_nil, or_false] at hX
    rcases hX with rfl | rfl | rfl | rfl | rfl | rfl | rfl
    · exact celly_blk _ _ _ _
    · exact celly_blk _ _ _ _
    · exact celly_blk _ _ _ _
    · exact celly_blk _ _ _ _
    · exact celly_row _ _ _ _ _ _
    · exact celly_win _ _ _ _ _
    · exact celly_it _ _ _ _) hD hB hK
  rw [hhd] at h'
  have h2 : Hv w T (itA B vO D.opn :: [defA D1, blkA P5 34 (markC z).toArray, blkA P3 3 #[.int .i64 s], blkA P4 34 (markC 0).toArray, blkA d 62 #[vF, vO, vP], blA vF D.firm, plA vP D.plan]) W := h'.pick [7, 0, 1, 2, 3, 4, 5, 6]
  have h3 := (it_hv h2).pick [5, 6, 0, 7, 1, 2, 4, 3]
  exact (dev_close (D := D) h3 hp).pick [1, 2, 3, 4, 0]
set_option maxRecDepth 100000 in
set_option maxHeartbeats 6400000 in
theorem shown_any (s : Int) (hth : Hid (there D s = true)) (hlen : Hid (D.opn.length ≤ 100000)) (h : Hid (Sep [devA d D] w T)) :
    Calls Try.prog 43 #[.pointer (some ⟨d, 0, none⟩), .int .i64 s] w fun e w' => e = .returned (.agg (markC (shownF D s)).toArray) ∧ Hv w T [devA d D] w' := by
  have hz := zero34
  have hml := markC_length
  refine (callsIn_wide (n := 9)).1 ?_
  refine callsIn_of_wp_marks Try.func43 rfl trivial ?_ rfl
  simp only [Try.ntmps43, List.size_toArray, List.length_cons, List.length_nil, Nat.reduceAdd, Nat.reduceSub, Array.replicate_succ, Array.replicate_zero, List.push_toArray, List.append_toArray, List.nil_append, List.cons_append]
  refine wpIn_wide.2 ?_
  go_wp2_with fail
  obtain ⟨P3, hP3⟩ : ∃ y, y = w.heap.size := ⟨_, rfl⟩
  obtain ⟨P4, hP4⟩ : ∃ y, y = w.heap.size + 1 := ⟨_, rfl⟩
  generalize hA : (w.alloc (.cells #[.int .i64 s] 3)).alloc (.cells (markC 0).toArray 34) = V
  have hv0 : Hv w T [blkA P4 34 (markC 0).toArray, blkA P3 3 #[.int .i64 s], devA d D] V := by
    have h1 := ((Hv.start h.out).alloc 3 #[.int .i64 s]).alloc 34 (markC 0).toArray
    simp only [World.size_alloc] at h1
    rw [hA] at h1
    rw [hP4, hP3]
    exact h1
  rw [← hP4]
  rw [← hP3]
  clear hA
  obtain ⟨h0, h1⟩ := there_lt hth.out
  obtain ⟨AF, cF, AO, cO, AP, cP, k0, k1, k2, hv, hpn⟩ := dev_cells (show Hv w T [devA d D, blkA P4 34 (markC 0).toArray, blkA P3 3 #[.int .i64 s]] V from hv0.pick [2, 0, 1])
  obtain ⟨g, rfl, hg, hr, _⟩ := firm_range hv (i := 1) rfl s.toNat (by omega)
  obtain ⟨z, hz2⟩ : ∃ z, z = D.firm[s.toNat] := ⟨_, rfl⟩
  rw [← hz2] at hr
  have HZ2 := Lib.hid hz2
  have HZ : Hid (firmAt D s = z) := by show _ = _; unfold firmAt; rw [if_pos hth.out, hz2, List.getElem?_eq_getElem (by omega)]; rfl
  have HL : Hid (s.toNat < D.firm.length) := by show _ < _; omega
  have d2 : decide (s < (D.firm.length : Int)) = true := decide_eq_true (by omega)
  have d3 : decide (0 ≤ s) = true := decide_eq_true (by omega)
  have HV := Lib.hid hv
  have HPN := Lib.hid hpn
  clear hpn
  have e3 : V.cell? ⟨P3, 0, none⟩ = some (.int .i64 s) := by simpa using (hv.blk (i := 5) rfl).cell 0
  have HP : Hid (P3 = w.heap.size ∧ P4 = w.heap.size + 1) := ⟨hP3, hP4⟩
  clear hv hz2 hv0 k1 k2 hP3 hP4
  go_step3
  go_upto_region 1 with (fail)
  refine wp_region_noPanic ?_
  refine wp_region_held_drew (S := (fun W => W.cell? ⟨d, 0, none⟩ = some (.slice (some ⟨g, 0, none⟩) D.firm.length cF) ∧ W.cell? ⟨P3, 0, none⟩ = some (.int .i64 s) ∧ W.rangeAt g (s.toNat * 64) (markC z))) (by kernel_rfl) ⟨k0, e3, hr⟩ (fun hHeld => ?_)
  refine wpAnyH_take (i := 0) (v := ?v0) rfl (by kernel_rfl) (by kernel_rfl) (by kernel_rfl) (fun _ _ _ h => h) (Or.inl ⟨by rfl, ?hy0⟩) (by assumption) ?rest0
  case hy0 =>
    intro w hSw
    (try dsimp only at hSw)
    go_simp
    try with_reducible rfl
  try simp only [Act.put, List.getElem_toArray, List.getElem_cons_zero, List.setIfInBounds_toArray, List.set_cons_zero, List.set_cons_succ]
  refine wpAnyH_take (i := 1) (v := ?v1) rfl (by kernel_rfl) (by kernel_rfl) (by kernel_rfl) (fun _ _ _ h => h) (Or.inl ⟨by rfl, ?hy1⟩) (by assumption) ?rest1
  case hy1 =>
    intro w hSw
    (try dsimp only at hSw)
    go_simp
    try with_reducible rfl
  try simp only [Act.put, List.getElem_toArray, List.getElem_cons_zero, List.getElem_cons_succ, List.setIfInBounds_toArray, List.set_cons_zero, List.set_cons_succ]
  refine wpAnyH_take (i := 2) (v := ?v2) rfl (by kernel_rfl) (by kernel_rfl) (by kernel_rfl) (fun _ _ _ h => h) (Or.inl ⟨by rfl, ?hy2⟩) (by assumption) ?rest2
  case hy2 =>
    intro w hSw
    (try dsimp only at hSw)
    go_simp
    try with_reducible rfl
  try simp only [Act.put, List.getElem_toArray, List.getElem_cons_zero, List.getElem_cons_succ, List.setIfInBounds_toArray, List.set_cons_zero, List.set_cons_succ]
  refine wpAnyH_take (i := 3) (v := ?v3) rfl (by kernel_rfl) (by kernel_rfl) (by kernel_rfl) (fun _ _ _ h => h) (Or.inl ⟨by rfl, ?hy3⟩) (by assumption) ?rest3
  case hy3 =>
    intro w hSw
    (try dsimp only at hSw)
    go_simp
    try with_reducible rfl
  try simp only [Act.put, List.getElem_toArray, List.getElem_cons_zero, List.getElem_cons_succ, List.setIfInBounds_toArray, List.set_cons_zero, List.set_cons_succ]
  refine wpAnyH_take (i := 4) (v := ?v4) rfl (by kernel_rfl) (by kernel_rfl) (by kernel_rfl) (fun _ _ _ h => h) (Or.inl ⟨by rfl, ?hy4⟩) (by assumption) ?rest4
  case hy4 =>
    intro w hSw
    (try dsimp only at hSw)
    go_simp
    try with_reducible rfl
  try simp only [Act.put, List.getElem_toArray, List.getElem_cons_zero, List.getElem_cons_succ, List.setIfInBounds_toArray, List.set_cons_zero, List.set_cons_succ]
  refine wpAnyH_take (i := 5) (v := ?v5) rfl (by kernel_rfl) (by kernel_rfl) (by kernel_rfl) (fun _ _ _ h => h) (Or.inl ⟨by rfl, ?hy5⟩) (by assumption) ?rest5
  case hy5 =>
    intro w hSw
    (try dsimp only at hSw)
    go_simp
    try with_reducible rfl
  try simp only [Act.put, List.getElem_toArray, List.getElem_cons_zero, List.getElem_cons_succ, List.setIfInBounds_toArray, List.set_cons_zero, List.set_cons_succ]
  refine wpAnyH_take (i := 6) (v := .agg _) rfl (by kernel_rfl) (by kernel_rfl) (by kernel_rfl) (fun _ _ _ h => h) (yieldsIf_load_mid (by rfl) 34 (.tmp 13) rfl _ _ rfl (markC z) _ (fun w hSw => hSw.2.2) Try.underlying34 rfl (by rw [size34, markC_length])) (by assumption) ?_
  try simp only [Act.put, List.getElem_toArray, List.getElem_cons_zero, List.getElem_cons_succ, List.setIfInBounds_toArray, List.set_cons_zero, List.set_cons_succ]
  refine wpAnyH_ready (rs := [7]) (by kernel_rfl) (by simp) ?_
  refine AllReadyH.cons rfl (fun K hK => ?_) AllReadyH.nil
  go_simp
  obtain ⟨P5, hP5⟩ : ∃ y, y = V.heap.size := ⟨_, rfl⟩
  obtain ⟨V5, hV5⟩ : ∃ y, y = (V.alloc (.cells (markC 0).toArray 34)).drew := ⟨_, rfl⟩
  have h5 := (HV.out.alloc 34 (markC 0).toArray).drew
  rw [← hV5, ← hP5] at h5
  rw [← hV5, ← hP5]
  have HV5 := Lib.hid h5
  have HKP : Hid (∀ (cs : Array Value) (W : World), Hv w T [blkA P5 34 cs, blkA d 62 #[.slice (some ⟨g, 0, none⟩) D.firm.length cF, .slice AO D.opn.length cO, .slice AP D.plan.length cP], blA (.slice (some ⟨g, 0, none⟩) D.firm.length cF) D.firm, wrA (.slice AO D.opn.length cO) D.opn, plA (.slice AP D.plan.length cP) D.plan, blkA P4 34 (markC 0).toArray, blkA P3 3 #[.int .i64 s]] W →
      W.cell? ⟨d, 0, none⟩ = some (.slice (some ⟨g, 0, none⟩) D.firm.length cF) ∧ W.cell? ⟨P3, 0, none⟩ = some (.int .i64 s) ∧ W.rangeAt g (s.toNat * 64) (markC z)) := fun cs W hv => by
    obtain ⟨g', e', _, hr', _⟩ := firm_range hv (i := 2) rfl s.toNat HL.out
    injection e' with e'
    injection e' with e'
    subst e'
    rw [← HZ2.out] at hr'
    exact ⟨by simpa using (hv.blk (i := 1) rfl).cell 0, by simpa using (hv.blk (i := 6) rfl).cell 0, hr'⟩
  have hs6 := h5.sets (markC z) 0
  rw [setMany_all (by simp [markC_length])] at hs6
  have hst : (storeCells ⟨P5, 0, none⟩ (markC z)).run Try.prog V5 = .ok () (V5.setCells P5 0 (markC z)) := cells_block (blk_there (h5.blk (i := 0) rfl) (n := 64) (by simp [markC_length]))
  have HV6 := Lib.hid hs6
  obtain ⟨V6, hV6⟩ : ∃ y, y = V5.setCells P5 0 (markC z) := ⟨_, rfl⟩
  rw [← hV6] at HV6 hst
  clear hV5 hP5 hV6 h5 hs6
  refine hK.out _ _ (HKP.out _ _ HV5.out) (fun hHeld2 => ?_)
  clear hK K
  try simp only [Act.put, List.getElem_toArray, List.getElem_cons_zero, List.getElem_cons_succ, List.setIfInBounds_toArray, List.set_cons_zero, List.set_cons_succ]
  refine wpAnyH_ready (rs := [8]) (by kernel_rfl) (by simp) ?_
  refine AllReadyH.cons rfl (fun K hK => ?_) AllReadyH.nil
  go_simp
  refine hK.out _ _ (HKP.out _ _ HV6.out) (fun hHeld3 => ?_)
  clear hK K
  refine wpAnyH_done (by kernel_rfl) ?_ _
  refine NoPanic.normal ?_
  have k1 : V6.cell? ⟨d, 1, none⟩ = some (.slice AO D.opn.length cO) := by simpa using (HV6.out.blk (i := 1) rfl).cell 1
  clear hHeld hHeld2 hHeld3 hr k0 e3 hst HKP HV5 HV hg
  go_wp2_with fail
  go_step3
  go_wp2_with fail
  refine (back_any _ _ _ _).mono ?_
  rintro e w5 ⟨rfl, rfl⟩
  obtain ⟨B, hB⟩ : ∃ y, y = V6.heap.size := ⟨_, rfl⟩
  obtain ⟨W5, hW5⟩ : ∃ y, y = V6.alloc (.cells #[.slice AO D.opn.length cO] 60) := ⟨_, rfl⟩
  have h7 := HV6.out.alloc 60 #[.slice AO D.opn.length cO]
  rw [← hW5, ← hB] at h7
  rw [← hW5, ← hB]
  have HV7 : Hid (ShI w T P3 P4 P5 d B W5.heap.size s z #[.slice (some ⟨g, 0, none⟩) D.firm.length cF, .slice AO D.opn.length cO, .slice AP D.plan.length cP] (.slice (some ⟨g, 0, none⟩) D.firm.length cF) (.slice AO D.opn.length cO) (.slice AP D.plan.length cP) D [] W5) :=
    ⟨Nat.le_refl _, fun _ h => by simp at h, (hv_it (h7.pick [0, 4, 1, 7, 6, 2, 3, 5])).pick [1, 2, 3, 4, 5, 6, 0]⟩
  clear h7 hW5 hB HV6 k1
  obtain ⟨hd, hhd⟩ : ∃ y : Array Value, y = #[.slice (some ⟨g, 0, none⟩) D.firm.length cF, .slice AO D.opn.length cO, .slice AP D.plan.length cP] := ⟨_, rfl⟩
  rw [← hhd] at HV7
  have HHD := Lib.hid hhd
  clear hhd
  go_wp2_with fail
  have hzw := zeroWr
  have hlaid := laid_wr
  have hwl := wrC_length
  refine (wpIn_wide (n := 9)).1 ?_
  refine rangeFunc_box rfl (by omega) (gf := 53) (lb := #[.pointer (some ⟨B, 0, none⟩)]) rfl trivial (enters_of Try.func53 (by kernel_rfl) rfl)
    (back_stops 8 (by omega) hlen.out ((HV7.out.2.2.at_ (i := 6) rfl).choose_spec.1)) KpT.trans (kpT_b fun b hb => ((HV7.out.2.2.at_ (i := 6) rfl).choose_spec.1).blt hb) (fun _ => rfl)
    (ShI w T P3 P4 P5 d B W5.heap.size s z hd (.slice (some ⟨g, 0, none⟩) D.firm.length cF) (.slice AO D.opn.length cO) (.slice AP D.plan.length cP) D) (fun c xs W => c = .exit 0 ∧ ShX w T P3 P4 P5 d B s hd (.slice (some ⟨g, 0, none⟩) D.firm.length cF) (.slice AO D.opn.length cO) (.slice AP D.plan.length cP) D xs W)
    (shi_own HV7.out.2.2.size) (fun c => OwnFrom.and (pure_own fun _ => c = .exit 0) (shx_own HV7.out.2.2.size)) HV7.out
    66 (fun x => (wrC x.2).toArray) [] ?keep ?round ?done ?stop
  case keep => exact fun pre x W hi => ⟨hi.1, kpT_below (fun b hb => ((hi.2.2.at_ (i := 6) rfl).choose_spec.1).blt hb) ((Below.refl _ W).alloc (Nat.le_refl _) _), fun _ hm => by simp at hm⟩
  case round =>
    intro l0 pre0 x0 W0 K hi0 hK
    gi_wp2
    clear hi0
    generalize W0.heap.size = Pb
    intro l1 pre W hl1 hr1 hi hPb hk hh hlen
    obtain ⟨hsz, hne, hv⟩ := hi
    obtain ⟨T1, hT, _, hR⟩ := Hv.round (B := W5.heap.size) (A := itA B (.slice AO D.opn.length cO) D.opn) (F := ITb B (.slice AO D.opn.length cO)) (fun h => h.2) _ hv (fun X hX => by
      simp only [List.mem_cons, List.not_mem_nil, or_false] at hX
      rcases hX with rfl | rfl | rfl | rfl | rfl | rfl
      · exact celly_blk _ _ _ _
      · exact celly_blk _ _ _ _
      · exact celly_blk _ _ _ _
      · exact celly_blk _ _ _ _
      · exact celly_row _ _ _ _ _ _
      · exact celly_win _ _ _ _ _)
    have H1 := Hv.start hT
    obtain ⟨c2, hr2⟩ := range_split (blk_range hk)
    rw [Nat.zero_add] at hr2
    have c3 : W.cell? ⟨P3, 0, none⟩ = some (.int .i64 s) := by simpa using (H1.blk (i := 1) rfl).cell 0
    obtain ⟨y0, hy0⟩ : ∃ y, y = x0.2.1 := ⟨_, rfl⟩
    obtain ⟨y1, hy1⟩ : ∃ y, y = x0.2.2 := ⟨_, rfl⟩
    rw [← hy0] at c2
    rw [← hy1] at hr2
    by_cases he : y0 = s
    · subst he
      have hs6 := H1.sets (markC y1) 0
      rw [setMany_all (by simp [markC_length])] at hs6
      have hst : (storeCells ⟨P5, 0, none⟩ (markC y1)).run Try.prog W = .ok () (W.setCells P5 0 (markC y1)) := cells_block (blk_there (H1.blk (i := 0) rfl) (n := 64) (by simp [markC_length]))
      obtain ⟨W6, hW6⟩ : ∃ y, y = W.setCells P5 0 (markC y1) := ⟨_, rfl⟩
      rw [← hW6] at hst hs6
      obtain ⟨F1, F2, F3⟩ := hR _ _ hs6
      have HF : Hid (KeepsFrom W5.heap.size W W6 ∧ ShX w T P3 P4 P5 d B y0 hd (.slice (some ⟨g, 0, none⟩) D.firm.length cF) (.slice AO D.opn.length cO) (.slice AP D.plan.length cP) D (pre ++ [x0]) W6) :=
        ⟨F1, pre, x0, rfl, hne, hy0.symm, by rw [← hy1]; exact F3⟩
      clear F1 F2 F3 hR hv hk hh hr1 H1 hT hs6 hW6 hy0 hy1 hne
      gi_wp2_with (refine stepIn_load_block hr2 rfl _ rfl rfl ?_)
      exact ⟨HF.out.1, rfl, HF.out.2⟩
    · have b1 : (y0 == s) = false := by simpa using he
      obtain ⟨F1, F2, F3⟩ := hR _ _ H1
      have HF : Hid (KeepsFrom W5.heap.size W W ∧ KpT (ITb B (.slice AO D.opn.length cO)) W W ∧ ShI w T P3 P4 P5 d B W5.heap.size s z hd (.slice (some ⟨g, 0, none⟩) D.firm.length cF) (.slice AO D.opn.length cO) (.slice AP D.plan.length cP) D (pre ++ [x0]) W) := by
        refine ⟨F1, F2, hsz, fun x hx => ?_, F3⟩
        rcases List.mem_append.1 hx with h | h
        · exact hne x h
        · rw [List.mem_singleton.1 h, ← hy0]; exact he
      clear F1 F2 F3 hR hv hk hh hr1 H1 hT hy0 hy1 hne he
      gi_wp2
      exact HF.out
  case stop =>
    rintro D1 c ys1 W1 hD1 hsp ⟨rfl, hx⟩ hK1
    obtain ⟨k, _, hsp⟩ := hsp
    obtain ⟨pre, x, rfl, h2, h3, h4⟩ := hx
    have HZZ : Hid (shownF D s = x.2.2) := by show _ = _; unfold shownF; rw [last_some hsp h2 h3]; rfl
    obtain ⟨zz, hzz⟩ : ∃ y, y = x.2.2 := ⟨_, rfl⟩
    rw [← hzz] at h4 HZZ
    have HV8 := Lib.hid (shown_end HHD.out HPN.out h4 hD1 HV7.out.2.2.size hK1)
    clear h4 hsp h2 h3 hK1 hD1 HV7 hzz
    have hr9 : W1.rangeAt P5 0 (markC zz) := blk_range (HV8.out.blk (i := 1) rfl)
    have hs9 := (HV8.out.front 2 (by simp)).sets (markC zz) 0
    rw [setMany_all (by simp [markC_length])] at hs9
    have hst : (storeCells ⟨P4, 0, none⟩ (markC zz)).run Try.prog W1 = .ok () (W1.setCells P4 0 (markC zz)) := cells_block (blk_there (HV8.out.blk (i := 2) rfl) (n := 64) (by simp [markC_length]))
    obtain ⟨W9, hW9⟩ : ∃ y, y = W1.setCells P4 0 (markC zz) := ⟨_, rfl⟩
    rw [← hW9] at hst hs9
    have HV9 : Hid (Hv w T [defA D1, blkA P4 34 (markC zz).toArray, devA d D, blkA P5 34 (markC zz).toArray, blkA P3 3 #[.int .i64 s]] W9) := hs9.pick [1, 0, 4, 2, 3]
    clear hs9 hW9
    refine wpIn_exit ?_
    go_wp2_with (refine step_load_block hr9 rfl _ rfl rfl ?_)
    refine ⟨by simp, .inl ⟨_, _, rfl, run_takeDeferred (HV9.out.def_ (i := 0) rfl), ?_⟩⟩
    have HV10 := HV9.out.take (.deferred none)
    exact ⟨.agg (markC zz).toArray, (results_cell_one rfl _ _ _).trans (by simp [asAddr, Result.andThen, loadVar_block (blk_range (HV10.blk (i := 0) rfl))]), by rw [HZZ.out], HV10.pick [1]⟩
  case done =>
    rintro D1 ys1 W1 hD1 rfl hi1 hK1
    obtain ⟨_, h3, h4⟩ := hi1
    have HZZ : Hid (shownF D s = z) := by show _ = _; unfold shownF; rw [last_none h3, ← HZ.out]; rfl
    obtain ⟨zz, hzz⟩ : ∃ y, y = z := ⟨_, rfl⟩
    rw [← hzz] at h4 HZZ
    have HV8 := Lib.hid (shown_end HHD.out HPN.out h4 hD1 HV7.out.2.2.size hK1)
    clear h4 h3 hK1 hD1 HV7 hzz
    have hr9 : W1.rangeAt P5 0 (markC zz) := blk_range (HV8.out.blk (i := 1) rfl)
    have hs9 := (HV8.out.front 2 (by simp)).sets (markC zz) 0
    rw [setMany_all (by simp [markC_length])] at hs9
    have hst : (storeCells ⟨P4, 0, none⟩ (markC zz)).run Try.prog W1 = .ok () (W1.setCells P4 0 (markC zz)) := cells_block (blk_there (HV8.out.blk (i := 2) rfl) (n := 64) (by simp [markC_length]))
    obtain ⟨W9, hW9⟩ : ∃ y, y = W1.setCells P4 0 (markC zz) := ⟨_, rfl⟩
    rw [← hW9] at hst hs9
    have HV9 : Hid (Hv w T [defA D1, blkA P4 34 (markC zz).toArray, devA d D, blkA P5 34 (markC zz).toArray, blkA P3 3 #[.int .i64 s]] W9) := hs9.pick [1, 0, 4, 2, 3]
    clear hs9 hW9
    go_wp2_with (refine step_load_block hr9 rfl _ rfl rfl ?_)
    refine ⟨by simp, .inl ⟨_, _, rfl, run_takeDeferred (HV9.out.def_ (i := 0) rfl), ?_⟩⟩
    have HV10 := HV9.out.take (.deferred none)
    exact ⟨.agg (markC zz).toArray, (results_cell_one rfl _ _ _).trans (by simp [asAddr, Result.andThen, loadVar_block (blk_range (HV10.blk (i := 0) rfl))]), by rw [HZZ.out], HV10.pick [1]⟩
end
end Go.Proofs.Ytbfmgdkiigkioaa

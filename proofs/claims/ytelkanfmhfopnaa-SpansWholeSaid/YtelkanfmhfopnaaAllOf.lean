/- The walk of the law's All. -/
import Derived.Test.YtelkanfmhfopnaaLen
namespace Go.Proofs.Ytelkanfmhfopnaa
open Go.RowKit Go.LawEnd Go.Shelf

attribute [local go_sem] Oper.semAt_some

theorem results_cells2 {fn : Func} {p q : Tmp} {ty tz : TypeId} (h : fn.results = #[.cell p ty, .cell q tz]) (tmps : Array Value) (P : Program) (w : World) :
    (results fn tmps).run P w = ((asAddr (tmps.getD p undef)).run P w).andThen fun a w₁ => ((loadVar ty a).run P w₁).andThen fun u w₂ => ((asAddr (tmps.getD q undef)).run P w₂).andThen fun b w₃ => ((loadVar tz b).run P w₃).andThen fun v w₄ => .ok (.tuple #[u, v]) w₄ := by
  simp [results, h, Sem.run_bind]
theorem own_far {w : World} {v : Value} {e t : TypeId} {size n b : Nat} {xs : List Value} {cs : Array Value} (h : w.ownsRow 0 e size v n xs) (hk : Blk w b t cs) (hne : t ≠ e) : v.ownBlock ≠ some b := by
  intro hb
  rcases h.2 with ⟨rfl, _⟩ | ⟨g, cap, cur, rfl, _, hh, _⟩
  · simp [Value.ownBlock] at hb
  · simp only [Value.ownBlock, Option.some.injEq] at hb
    subst hb
    unfold Blk at hk
    rw [hh] at hk
    injection hk with hk
    injection hk with _ hk
    exact hne hk.symm

theorem not_nil_func (x : Option Addr) (W : World) : (binOp BinOp.eql 61 (.func (.func 41) #[] #[.pointer x]) Value.nilFunc).run Try.prog W = .ok (.bool false) W := by kernel_rfl
/-- what is there between two rounds of All -/
def LA (w : World) (B0 P2 P3 P5 B : Nat) (v : Value) (l : List Sp) (xs : List Sp) (W : World) : Prop :=
  B0 ≤ W.heap.size ∧ ∃ u, Hv w No [blkA P5 22 #[u], rsA u xs, blkA P2 22 #[.slice none 0 0], blkA P3 4 #[.bool false], pureA (xs = [] → u = .slice none 0 0), itA B v l] W

theorem LA.it {w W : World} {B0 P2 P3 P5 B : Nat} {v : Value} {l xs : List Sp} (h : LA w B0 P2 P3 P5 B v l xs W) : IT W B v l := by
  obtain ⟨_, u, h⟩ := h
  obtain ⟨T, hT⟩ := h.last (C := [_, _, _, _, _])
  exact hT.1
theorem cellies {C : Nat} {P2 P3 P5 : Nat} {u : Value} {xs : List Sp} {p : Prop} : ∀ X ∈ [blkA P5 22 #[u], rsA u xs, blkA P2 22 #[.slice none 0 0], blkA P3 4 #[.bool false], pureA p], X.Celly C := by
  intro X hX
  simp only [List.mem_cons, List.not_mem_nil, or_false] at hX
  rcases hX with rfl | rfl | rfl | rfl | rfl
  · exact celly_blk _ _ _ _
  · exact celly_row _ _ _ _ _ _
  · exact celly_blk _ _ _ _
  · exact celly_blk _ _ _ _
  · exact celly_pure _ _

set_option maxRecDepth 100000 in
set_option maxHeartbeats 6400000 in
theorem allOf_any {T : Nat → Prop} (s : Nat) (l : List Sp) (w : World) (h : Hid (Sep [setA s l] w T)) (hok : Hid (OkS l)) (h300 : l.length ≤ 300) :
    Calls Try.prog 12 #[.pointer (some ⟨s, 0, none⟩)] w fun e w' => ∃ v, e = .returned (.tuple #[v, .bool true]) ∧ Hv w No [rsA v l] w' ∧ (l = [] → v = .slice none 0 0) := by
  refine (callsIn_wide (n := 9)).1 ?_
  refine callsIn_of_wp_marks Try.func12 rfl trivial ?_ rfl
  simp only [Try.ntmps12, List.size_toArray, List.length_cons, List.length_nil, Nat.reduceAdd, Nat.reduceSub, Array.replicate_succ, Array.replicate_zero, List.push_toArray, List.append_toArray, List.nil_append, List.cons_append]
  refine wpIn_wide.2 ?_
  have hnf := not_nil_func
  have HS : Hid (Sep [setA s l] ((w.alloc (.cells #[.slice none 0 0] 22)).alloc (.cells #[.bool false] 4)) T) := by
    refine (h.out.keep (w' := w.alloc (.cells #[.slice none 0 0] 22)) fun b hb => Below.heap_alloc w _ b (h.out.lt hb)).keep fun b hb => ?_
    exact Below.heap_alloc _ _ b (by rw [World.size_alloc]; have := h.out.lt hb; omega)
  go_wp2_with fail
  refine (all_any s l _ HS (by omega)).mono ?_
  rintro e w5 ⟨B, v, rfl, h5⟩
  obtain ⟨P2, hP2⟩ : ∃ y, y = w.heap.size := ⟨_, rfl⟩
  obtain ⟨P3, hP3⟩ : ∃ y, y = w.heap.size + 1 := ⟨_, rfl⟩
  rw [← hP3, ← hP2]
  have HP : Hid (w.heap.size ≤ P2 ∧ w.heap.size ≤ P3) := by refine ⟨?_, ?_⟩ <;> omega
  have HV5 : Hid (Hv w No [blkA P2 22 #[.slice none 0 0], blkA P3 4 #[.bool false], itA B v l] w5) := by
    have h1 := ((Hv.begin w).alloc 22 #[.slice none 0 0]).alloc 4 #[.bool false]
    rw [World.size_alloc] at h1
    have h2 := h1.add h5
    rw [hP2, hP3]
    exact h2.pick [2, 1, 0]
  clear h5 HS hP3 hP2
  go_wp2_with fail
  obtain ⟨P5, hP5⟩ : ∃ y, y = w5.heap.size := ⟨_, rfl⟩
  obtain ⟨w6, hw6⟩ : ∃ y, y = w5.alloc (.cells #[.slice none 0 0] 22) := ⟨_, rfl⟩
  rw [← hw6, ← hP5]
  have HV6 : Hid (LA w w6.heap.size P2 P3 P5 B v l [] w6) := by
    refine ⟨Nat.le_refl _, .slice none 0 0, ?_⟩
    have h1 := ((HV5.out.alloc 22 #[.slice none 0 0]).nilRow 26 2).pureI (show ([] : List Sp) = [] → Value.slice none 0 0 = .slice none 0 0 from fun _ => rfl)
    rw [hP5, hw6]
    exact h1.pick [2, 1, 3, 4, 0, 5]
  have HNE : Hid (∀ Pb, w6.heap.size ≤ Pb → P5 ≠ Pb) := fun Pb hPb e => by rw [hw6, World.size_alloc] at hPb; omega
  clear hw6 hP5 HV5
  refine (wpIn_wide (n := 9)).1 ?_
  refine rangeFunc_box rfl (by omega) (gf := 41) (lb := #[.pointer (some ⟨B, 0, none⟩)]) rfl trivial (enters_of Try.func41 (by kernel_rfl) rfl)
    (vals_stops 8 (by omega) (by omega) HV6.out.it) KpT.trans (kpT_b fun b hb => HV6.out.it.blt hb) (fun _ => rfl)
    (LA w w6.heap.size P2 P3 P5 B v l) (fun _ _ _ => False) (OwnFrom.and (fun _ _ _ _ hs hg _ => Nat.le_trans hs hg.size) (ex_own fun u => hv_own (fun xs X hX => by
      rcases List.mem_append.1 (show X ∈ [_, _, _, _, _] ++ [_] from hX) with h | h
      · exact cellies X h
      · rw [List.mem_singleton.1 h]; exact celly_it _ _ _ _) (by obtain ⟨_, u, h⟩ := HV6.out; exact h.size))) (fun _ _ _ _ _ hs _ _ => hs) HV6.out
    26 (fun x => #[.int .i64 x.1, .int .i64 x.2]) [(P5, 22)] ?keep ?round ?done ?stop
  case keep =>
    exact fun pre x W hi => ⟨hi.1, kpT_below (fun b hb => hi.it.blt hb) ((Below.refl _ W).alloc (Nat.le_refl _) _), fun p hm => by
      simp only [List.mem_cons, List.not_mem_nil, or_false] at hm
      subst hm
      obtain ⟨_, u, hv⟩ := hi
      exact ⟨u, hv.blk (i := 0) rfl, fun b hb => ((hv.row (i := 1) rfl).lt b hb).2⟩⟩
  case round =>
    intro l0 pre0 x0 W0 K hi0 hK
    gi_wp2
    clear hi0
    generalize W0.heap.size = Pb
    intro l1 pre W hl1 hr1 hi hPb hk hh hlen
    obtain ⟨hsz, u, hv⟩ := hi
    obtain ⟨u', hu1, hu2⟩ := hh (P5, 22) (by simp)
    have huu := blk_one (hv.blk (i := 0) rfl) hu1
    subst huu
    obtain ⟨Au, cu, hu, _⟩ := SpArg.of_own (hv.row (i := 1) rfl)
    obtain ⟨T1, hT, _, hR⟩ := Hv.round (B := w6.heap.size) (A := itA B v l) (F := ITb B v) (fun h => h.2) [_, _, _, _, _] hv cellies
    have H1 := Hv.start hT
    have hPT : ¬ T1 Pb := hT.misses fun X hX => by
      simp only [List.mem_cons, List.not_mem_nil, or_false] at hX
      rcases hX with rfl | rfl | rfl | rfl | rfl
      · exact misses_blk (HNE.out Pb hPb)
      · exact misses_row hu2
      · exact misses_blk (Blk.ne_ (H1.blk (i := 2) rfl) hk (by decide))
      · exact misses_blk (Blk.ne_ (H1.blk (i := 3) rfl) hk (by decide))
      · exact misses_pure
    have c0 : W.cell? ⟨P5, 0, none⟩ = some u := by simpa using (H1.blk (i := 0) rfl).cell 0
    have c2 : W.cell? ⟨Pb, 0, none⟩ = some (.int .i64 x0.1) := by simpa using hk.cell 0
    have c3 : W.cell? ⟨Pb, 1, none⟩ = some (.int .i64 x0.2) := by simpa using hk.cell 1
    have H2 : Hv W T1 (rsA u pre :: [blkA P5 22 #[u], blkA P2 22 #[.slice none 0 0], blkA P3 4 #[.bool false]]) W := H1.pick [1, 0, 2, 3]
    obtain ⟨g, cap, W3, hE, H3⟩ := app_span H2 26 (by omega) x0
    have H4 : Hv W T1 (blkA P5 22 #[u] :: [rsA (.slice (some ⟨g, 0, none⟩) (pre.length + 1) cap) (pre ++ [x0]), blkA P2 22 #[.slice none 0 0], blkA P3 4 #[.bool false]]) W3 := H3.pick [1, 0, 2, 3]
    have d0 : W3.cell? ⟨P5, 0, none⟩ = some u := by simpa using (H4.blk (i := 0) rfl).cell 0
    have d1 := (H4.blk (i := 0) rfl).frozen 0
    have H5 := (H4.set 0 (.slice (some ⟨g, 0, none⟩) (pre.length + 1) cap)).pureI (show pre ++ [x0] = [] → Value.slice (some ⟨g, 0, none⟩) (pre.length + 1) cap = .slice none 0 0 from fun e => by simp at e)
    obtain ⟨F1, F2, F3⟩ := hR [blkA P5 22 #[.slice (some ⟨g, 0, none⟩) (pre.length + 1) cap], rsA (.slice (some ⟨g, 0, none⟩) (pre.length + 1) cap) (pre ++ [x0]), blkA P2 22 #[.slice none 0 0], blkA P3 4 #[.bool false], pureA (pre ++ [x0] = [] → Value.slice (some ⟨g, 0, none⟩) (pre.length + 1) cap = .slice none 0 0)] _ (H5.pick [1, 2, 3, 4, 0])
    have HF : Hid (KeepsFrom w6.heap.size W (W3.setCell ⟨P5, 0, none⟩ (.slice (some ⟨g, 0, none⟩) (pre.length + 1) cap)) ∧ KpT (ITb B v) W (W3.setCell ⟨P5, 0, none⟩ (.slice (some ⟨g, 0, none⟩) (pre.length + 1) cap)) ∧ LA w w6.heap.size P2 P3 P5 B v l (pre ++ [x0]) (W3.setCell ⟨P5, 0, none⟩ (.slice (some ⟨g, 0, none⟩) (pre.length + 1) cap))) :=
      ⟨F1, F2, Nat.le_trans hsz F1.size, _, F3⟩
    have HE := Lib.hid hE
    have hp300 : pre.length + 1 ≤ 300 := by omega
    subst hu
    clear F1 F2 F3 hR hv hk hh hr1 H1 H2 H3 H4 H5 hT hE hu1 hu2 hPT
    gi_wp2_with (first | (gi_at_builtin; refine wpListIn_append_run rfl (.tmp 13) (.tmp 15) _ rfl HE.out ?_) | fail)
    exact HF.out
  case stop => exact fun _ _ _ _ _ _ h _ => h.elim
  case done =>
    rintro D1 ys1 W1 hD1 rfl hi1 hK1
    obtain ⟨_, u, hv⟩ := hi1
    have HV7 : Hid (Hv w No [defA D1, blkA P5 22 #[u], rsA u ys1, blkA P2 22 #[.slice none 0 0], blkA P3 4 #[.bool false]] W1) := by
      have h' := hv.addDef (B := w6.heap.size) (fun X hX => by
        rcases List.mem_append.1 (show X ∈ [_, _, _, _, _] ++ [_] from hX) with h | h
        · exact cellies X h
        · rw [List.mem_singleton.1 h]; exact celly_it _ _ _ _) hD1 (by obtain ⟨_, u, h⟩ := HV6.out; exact h.size) hK1
      exact h'.pick [0, 1, 2, 3, 4]
    have HU : Hid (ys1 = [] → u = .slice none 0 0) := hv.pure_ (i := 4) rfl
    obtain ⟨Au, cu, hu, _⟩ := SpArg.of_own (hv.row (i := 1) rfl)
    subst hu
    have c0 : W1.cell? ⟨P5, 0, none⟩ = some (.slice Au ys1.length cu) := by simpa using (HV7.out.blk (i := 1) rfl).cell 0
    have c1 : W1.cell? ⟨P2, 0, none⟩ = some (.slice none 0 0) := by simpa using (HV7.out.blk (i := 3) rfl).cell 0
    have c2 : W1.cell? ⟨P3, 0, none⟩ = some (.bool false) := by simpa using (HV7.out.blk (i := 4) rfl).cell 0
    have c3 := (HV7.out.blk (i := 3) rfl).frozen 0
    have c4 := (HV7.out.blk (i := 4) rfl).frozen 0
    have HV8 : Hid (Hv w No [blkA P2 22 #[.slice Au ys1.length cu], defA D1, rsA (.slice Au ys1.length cu) ys1, blkA P3 4 #[.bool false]] (W1.setCell ⟨P2, 0, none⟩ (.slice Au ys1.length cu))) := (show Hv w No (blkA P2 22 #[.slice none 0 0] :: [defA D1, rsA (.slice Au ys1.length cu) ys1, blkA P3 4 #[.bool false]]) W1 from HV7.out.pick [3, 0, 2, 4]).set 0 _
    have c5 : (W1.setCell ⟨P2, 0, none⟩ (.slice Au ys1.length cu)).cell? ⟨P3, 0, none⟩ = some (.bool false) := by simpa using (HV8.out.blk (i := 3) rfl).cell 0
    have c6 := (HV8.out.blk (i := 3) rfl).frozen 0
    clear hv hK1 HV6 hD1
    go_wp2
    have HV9 : Hid (Hv w No [defA D1, blkA P3 4 #[.bool true], blkA P2 22 #[.slice Au ys1.length cu], rsA (.slice Au ys1.length cu) ys1] ((W1.setCell ⟨P2, 0, none⟩ (.slice Au ys1.length cu)).setCell ⟨P3, 0, none⟩ (.bool true))) :=
      ((show Hv w No (blkA P3 4 #[.bool false] :: [defA D1, rsA (.slice Au ys1.length cu) ys1, blkA P2 22 #[.slice Au ys1.length cu]]) _ from HV8.out.pick [3, 1, 2, 0]).set 0 _).pick [1, 0, 3, 2]
    refine ⟨by simp, .inl ⟨_, _, rfl, run_takeDeferred (HV9.out.def_ (i := 0) rfl), ?_⟩⟩
    have HV10 := HV9.out.take (.deferred none)
    have e2 := (HV10.blk (i := 1) rfl).cell 0
    have e3 := (HV10.blk (i := 0) rfl).cell 0
    simp only [List.getElem?_toArray, List.getElem?_cons_zero] at e2 e3
    refine ⟨.tuple #[.slice Au ys1.length cu, .bool true], ?_, _, rfl, HV10.pick [2], HU.out⟩
    rw [results_cells2 rfl]
    go_simp
end Go.Proofs.Ytelkanfmhfopnaa

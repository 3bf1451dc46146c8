/- The walk of Len. -/
import Derived.Test.YtelkanfmhfopnaaIt
namespace Go.Proofs.Ytelkanfmhfopnaa
open Go.RowKit Go.LawEnd Go.Shelf

attribute [local go_sem] Oper.semAt_some

def totw (l : List Sp) : Int := l.foldl (fun a x => wrap64 (a + x.2)) 0
def total (l : List Sp) : Int := (l.map (·.2)).foldr (· + ·) 0
theorem total_cons (x : Sp) (l : List Sp) : total (x :: l) = x.2 + total l := rfl
theorem total_append (a b : List Sp) : total (a ++ b) = total a + total b := by
  induction a with
  | nil => simp [total]
  | cons x a ih => rw [List.cons_append, total_cons, total_cons, ih]; omega
theorem total_bound : ∀ {l : List Sp}, OkS l → ∀ m : Int, m ≤ 1048576 → (∀ y ∈ l, m ≤ y.1) → 0 ≤ total l ∧ total l + m ≤ 1048576
  | [], _, m, hm, _ => by simp [total]; exact hm
  | y :: l, h, m, hm, hy => by
    have h1 := h.val y (List.mem_cons_self ..)
    have h2 := hy y (List.mem_cons_self ..)
    have hap := (List.pairwise_cons.1 h.apart).1
    have ih := total_bound h.tail (en y) h1.2.2 fun z hz => by have := hap z hz; omega
    rw [total_cons]
    have he : en y = y.1 + y.2 := rfl
    omega
theorem oks_total {l : List Sp} (h : OkS l) : 0 ≤ total l ∧ total l ≤ 1048576 := by
  have := total_bound h 0 (by omega) fun y hy => (h.val y hy).1
  omega
theorem totw_eq {l : List Sp} (h : OkS l) : totw l = total l := by
  have key : ∀ (b a : List Sp), OkS (a ++ b) → b.foldl (fun a x => wrap64 (a + x.2)) (total a) = total (a ++ b) := by
    intro b
    induction b with
    | nil => intro a _; simp
    | cons x b ih =>
      intro a hab
      rw [List.foldl_cons]
      have h1 : OkS (a ++ [x]) := by
        have : a ++ x :: b = (a ++ [x]) ++ b := by simp
        rw [this] at hab
        exact hab.left
      have h2 := oks_total h1
      have h3 : total a + x.2 = total (a ++ [x]) := by rw [total_append]; simp [total]
      rw [h3, IntWalk.wrap64_in _ (by omega), ih (a ++ [x]) (by simpa using hab)]
      simp
  exact key l [] (by simpa using h)

/-- what is there between two rounds of Len -/
def LI (w : World) (B0 P3 B : Nat) (v : Value) (l : List Sp) (xs : List Sp) (W : World) : Prop :=
  B0 ≤ W.heap.size ∧ Hv w No [blkA P3 3 #[.int .i64 (totw xs)], itA B v l] W

set_option maxRecDepth 100000 in
set_option maxHeartbeats 6400000 in
theorem len_any {T : Nat → Prop} (s : Nat) (l : List Sp) (w : World) (h : Hid (Sep [setA s l] w T)) (hok : Hid (OkS l)) :
    Calls Try.prog 13 #[.pointer (some ⟨s, 0, none⟩)] w fun e w' => e = .returned (.int .i64 (total l)) ∧ Below w.heap.size w w' := by
  refine (callsIn_wide (n := 9)).1 ?_
  refine callsIn_of_wp_marks Try.func13 rfl trivial ?_ rfl
  simp only [Try.ntmps13, List.size_toArray, List.length_cons, List.length_nil, Nat.reduceAdd, Nat.reduceSub, Array.replicate_succ, Array.replicate_zero, List.push_toArray, List.append_toArray, List.nil_append, List.cons_append]
  refine wpIn_wide.2 ?_
  have HS : Hid (Sep [setA s l] (w.alloc (.cells #[.int .i64 0] 3)) T) := h.out.keep fun b hb => Below.heap_alloc w _ b (h.out.lt hb)
  have hlen := hok.out.len
  go_wp2_with fail
  refine (all_any s l _ HS (by omega)).mono ?_
  rintro e w5 ⟨B, v, rfl, h5⟩
  obtain ⟨P3, hP3⟩ : ∃ y, y = w.heap.size := ⟨_, rfl⟩
  rw [← hP3]
  have HP : Hid (w.heap.size ≤ P3) := Nat.le_of_eq hP3.symm
  have HV5 : Hid (LI w w5.heap.size P3 B v l [] w5) := by
    refine ⟨Nat.le_refl _, ?_⟩
    have h1 := (Hv.begin w).alloc 3 #[.int .i64 0]
    have h2 := h1.add h5
    rw [hP3]
    exact h2.pick [1, 0]
  clear h5 HS hP3
  go_wp2_with fail
  refine (wpIn_wide (n := 9)).1 ?_
  refine rangeFunc_box rfl (by omega) (gf := 41) (lb := #[.pointer (some ⟨B, 0, none⟩)]) rfl trivial (enters_of Try.func41 (by kernel_rfl) rfl)
    (vals_stops 8 (by omega) (by omega) ((HV5.out.2.at_ (i := 1) rfl).choose_spec.1)) KpT.trans (kpT_b fun b hb => ((HV5.out.2.at_ (i := 1) rfl).choose_spec.1).blt hb) (fun _ => rfl)
    (LI w w5.heap.size P3 B v l) (fun _ _ _ => False) (OwnFrom.and (fun _ _ _ _ hs hg _ => Nat.le_trans hs hg.size) (hv_own (fun xs X hX => by
      simp only [List.mem_cons, List.not_mem_nil, or_false] at hX
      rcases hX with rfl | rfl
      · exact celly_blk _ _ _ _
      · exact celly_it _ _ _ _) HV5.out.2.size)) (fun _ _ _ _ _ hs _ _ => hs) HV5.out
    26 (fun x => #[.int .i64 x.1, .int .i64 x.2]) [] ?keep ?round ?done ?stop
  case keep => exact fun pre x W hi => ⟨hi.1, kpT_below (fun b hb => ((hi.2.at_ (i := 1) rfl).choose_spec.1).blt hb) ((Below.refl _ W).alloc (Nat.le_refl _) _), fun _ hm => by simp at hm⟩
  case round =>
    intro l0 pre0 x0 W0 K hi0 hK
    gi_wp2
    clear hi0
    generalize W0.heap.size = Pb
    intro l1 pre W hl1 hr1 hi hPb hk hh hlen
    obtain ⟨hsz, hv⟩ := hi
    obtain ⟨T1, hT, _, hR⟩ := Hv.round (B := w5.heap.size) (A := itA B v l) (F := ITb B v) (fun h => h.2) [blkA P3 3 #[.int .i64 (totw pre)]] hv (fun X hX => by
      simp only [List.mem_cons, List.not_mem_nil, or_false] at hX
      subst hX
      exact celly_blk _ _ _ _)
    have H1 := Hv.start hT
    have c0 : W.cell? ⟨P3, 0, none⟩ = some (.int .i64 (totw pre)) := by simpa using (H1.blk (i := 0) rfl).cell 0
    have c1 := (H1.blk (i := 0) rfl).frozen 0
    have c2 : W.cell? ⟨Pb, 1, none⟩ = some (.int .i64 x0.2) := by simpa using hk.cell 1
    obtain ⟨F1, F2, F3⟩ := hR _ _ (H1.set 0 (.int .i64 (wrap64 (totw pre + x0.2))))
    have HF : Hid (KeepsFrom w5.heap.size W (W.setCell ⟨P3, 0, none⟩ (.int .i64 (wrap64 (totw pre + x0.2)))) ∧ KpT (ITb B v) W (W.setCell ⟨P3, 0, none⟩ (.int .i64 (wrap64 (totw pre + x0.2)))) ∧ LI w w5.heap.size P3 B v l (pre ++ [x0]) (W.setCell ⟨P3, 0, none⟩ (.int .i64 (wrap64 (totw pre + x0.2))))) := by
      refine ⟨F1, F2, Nat.le_trans hsz F1.size, ?_⟩
      have : totw (pre ++ [x0]) = wrap64 (totw pre + x0.2) := by simp [totw]
      rw [this]
      exact F3
    clear F1 F2 F3 hR hv hk hh hr1 H1 hT
    gi_wp2
    exact HF.out
  case stop => exact fun _ _ _ _ _ _ h _ => h.elim
  case done =>
    rintro D1 ys1 W1 hD1 rfl hi1 hK1
    have HV6 : Hid (Hv w No [defA D1, blkA P3 3 #[.int .i64 (total ys1)]] W1) := by
      have h' := hi1.2.addDef (B := w5.heap.size) (fun X hX => by
        simp only [List.mem_cons, List.not_mem_nil, or_false] at hX
        rcases hX with rfl | rfl
        · exact celly_blk _ _ _ _
        · exact celly_it _ _ _ _) hD1 HV5.out.2.size hK1
      rw [totw_eq hok.out] at h'
      exact h'.pick [0, 1]
    have c0 : W1.cell? ⟨P3, 0, none⟩ = some (.int .i64 (total ys1)) := by simpa using (HV6.out.blk (i := 1) rfl).cell 0
    clear hi1 hK1 HV5 hD1
    go_wp2
    refine ⟨by simp, .inl ⟨_, _, rfl, run_takeDeferred (HV6.out.def_ (i := 0) rfl), ?_⟩⟩
    have HV7 := HV6.out.take (.deferred none)
    exact ⟨_, results_tmp rfl _ _ _, rfl, HV7.below⟩
end Go.Proofs.Ytelkanfmhfopnaa

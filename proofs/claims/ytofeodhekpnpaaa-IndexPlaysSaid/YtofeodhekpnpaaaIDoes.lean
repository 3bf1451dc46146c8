/- A call with both: what does answers, whatever is in both. -/
import Derived.Test.YtofeodhekpnpaaaIRef2
namespace Go.Proofs.Ytofeodhekpnpaaa
open Go.RowKit Go.LawEnd

theorem place_same (p e : Int) (q : Bool) (w : World) :
    Calls Try.prog 26 #[.agg #[.int .i64 p, .bool q], .int .i64 e, .int .i64 p, .bool q, .int .i64 e] w fun r w' => r = .returned (.bool true) ∧ Below w.heap.size w w' := by
  have HB := Lib.hid ((Below.refl w.heap.size w).alloc (Nat.le_refl _) (.cells #[.int .i64 p, .bool q] 35))
  have b1 : (e == e) = true := by simp
  have b2 : (p == p) = true := by simp
  have b3 : (q == q) = true := by simp
  go_enter Try.func26, Try.ntmps26
  go_wp2
  go_ret
  exact ⟨by simp, HB.out⟩

/-- both, behind a call -/
def DidA (w : World) (T : Nat → Prop) (x r n slots len : Nat) (e : Ending) (w' : World) : Prop :=
  e = .returned (.bool true) ∧ ∃ l' f' n', n' ≤ n + 1 ∧ Ok slots l' f' ∧ l'.length = len ∧ Hv w T [idxA x n' l' f' slots, refA r slots l'] w'
section
variable {w : World} {x r slots n : Nat} {l : Pls} {f : Ats} {T : Nat → Prop}
theorem does_put_a (i s : Int) (t : Bool) (h : Hid (Sep [idxA x n l f slots, refA r slots l] w T)) (hok : Hid (Ok slots l f)) (hl : l.length ≤ 4096) (h2 : slots ≤ 1024) (hn : n < maxLen) :
    Calls Try.prog 11 #[.pointer (some ⟨x, 0, none⟩), .pointer (some ⟨r, 0, none⟩), .agg #[.int .i64 0, .int .i64 i, .int .i64 s, .bool t]] w (DidA w T x r n slots l.length) := by
  obtain ⟨P5, hP5⟩ : ∃ y, y = w.heap.size := ⟨_, rfl⟩
  obtain ⟨V, hV⟩ : ∃ y, y = w.alloc (.cells #[.int .i64 0, .int .i64 i, .int .i64 s, .bool t] 32) := ⟨_, rfl⟩
  have HW : Hid (Hv w T [idxA x n l f slots, refA r slots l, blkA P5 32 #[.int .i64 0, .int .i64 i, .int .i64 s, .bool t]] V) := by
    rw [hV, hP5]
    exact ((Hv.start h.out).alloc 32 #[.int .i64 0, .int .i64 i, .int .i64 s, .bool t]).pick [1, 2, 0]
  obtain ⟨L, hL⟩ : ∃ L, L = (putF slots l f i s t).2.1 := ⟨_, rfl⟩
  obtain ⟨F, hF⟩ : ∃ F, F = (putF slots l f i s t).2.2 := ⟨_, rfl⟩
  obtain ⟨a, ha⟩ : ∃ a, a = (putF slots l f i s t).1.1 := ⟨_, rfl⟩
  obtain ⟨b, hb⟩ : ∃ b, b = (putF slots l f i s t).1.2.1 := ⟨_, rfl⟩
  obtain ⟨c, hc⟩ : ∃ c, c = (putF slots l f i s t).1.2.2 := ⟨_, rfl⟩
  have HOK2 : Hid (Ok slots L F ∧ L.length = l.length) := by show _ ∧ _; rw [hL, hF]; exact hok.out.putF_ i s t
  have HEa := Lib.hid ha
  have HEb := Lib.hid hb
  have HEc := Lib.hid hc
  have HEL := Lib.hid hL
  have HEF := Lib.hid hF
  clear ha hb hc hL hF
  go_enter Try.func11, Try.ntmps11
  have k0 : V.cell? ⟨P5, 0, none⟩ = some (.int .i64 0) := by simpa using (HW.out.blk (i := 2) rfl).cell 0
  have k1 : V.cell? ⟨P5, 1, none⟩ = some (.int .i64 i) := by simpa using (HW.out.blk (i := 2) rfl).cell 1
  have k2 : V.cell? ⟨P5, 2, none⟩ = some (.int .i64 s) := by simpa using (HW.out.blk (i := 2) rfl).cell 2
  have k3 : V.cell? ⟨P5, 3, none⟩ = some (.bool t) := by simpa using (HW.out.blk (i := 2) rfl).cell 3
  go_wp2_with fail
  rw [← hV, ← hP5]
  clear hV hP5
  obtain ⟨T2, hT2, hJ2⟩ := Hv.use [idxA x n l f slots] _ HW.out
  refine (put_a i s t hT2 hok.out hl h2 hn).mono ?_
  rintro e w2 ⟨rfl, h2'⟩
  have HV2 : Hid (Hv w T [idxA x (n + 1) L F slots, refA r slots l, blkA P5 32 #[.int .i64 0, .int .i64 i, .int .i64 s, .bool t]] w2) := by
    rw [HEL.out, HEF.out]; exact hJ2 _ _ h2'
  rw [← HEa.out, ← HEb.out, ← HEc.out]
  clear hT2 hJ2 h2' HW k0 k1 k2 k3
  obtain ⟨P7, hP7⟩ : ∃ y, y = w2.heap.size := ⟨_, rfl⟩
  obtain ⟨V2, hV2⟩ : ∃ y, y = w2.alloc (.cells #[.int .i64 a, .bool b] 35) := ⟨_, rfl⟩
  have HV3 : Hid (Hv w T [refA r slots l, idxA x (n + 1) L F slots, blkA P5 32 #[.int .i64 0, .int .i64 i, .int .i64 s, .bool t], blkA P7 35 #[.int .i64 a, .bool b]] V2) := by
    rw [hV2, hP7]
    exact (HV2.out.alloc 35 #[.int .i64 a, .bool b]).pick [2, 1, 3, 0]
  have k1 : V2.cell? ⟨P5, 1, none⟩ = some (.int .i64 i) := by simpa using (HV3.out.blk (i := 2) rfl).cell 1
  have k2 : V2.cell? ⟨P5, 2, none⟩ = some (.int .i64 s) := by simpa using (HV3.out.blk (i := 2) rfl).cell 2
  have k3 : V2.cell? ⟨P5, 3, none⟩ = some (.bool t) := by simpa using (HV3.out.blk (i := 2) rfl).cell 3
  rw [hV2] at k1 k2 k3
  go_wp2_with fail
  rw [← hV2, ← hP7]
  rw [← hV2] at k1 k2 k3
  clear hV2 hP7 HV2
  obtain ⟨T3, hT3, hJ3⟩ := Hv.use [refA r slots l] _ HV3.out
  refine (rput_a i s t hT3 hok hl).mono ?_
  rintro e w3 ⟨rfl, h3⟩
  have HV4 : Hid (Hv w T [refA r slots L, idxA x (n + 1) L F slots, blkA P5 32 #[.int .i64 0, .int .i64 i, .int .i64 s, .bool t], blkA P7 35 #[.int .i64 a, .bool b]] w3) := by
    have := hJ3 _ _ h3
    rw [← HEL.out] at this
    exact this
  rw [← HEa.out, ← HEb.out, ← HEc.out]
  clear hT3 hJ3 h3 HV3 k1 k2 k3
  have k4 : w3.cell? ⟨P7, 0, none⟩ = some (.int .i64 a) := by simpa using (HV4.out.blk (i := 3) rfl).cell 0
  have k5 : w3.cell? ⟨P7, 1, none⟩ = some (.bool b) := by simpa using (HV4.out.blk (i := 3) rfl).cell 1
  go_wp2_with fail
  refine (place_same a c b _).mono ?_
  rintro e w4 ⟨rfl, hb4⟩
  have HV5 := Lib.hid (HV4.out.still hb4)
  clear hb4 HV4 k4 k5
  go_wp2
  go_ret
  exact ⟨rfl, L, F, n + 1, Nat.le_refl _, HOK2.out.1, HOK2.out.2, HV5.out.pick [1, 0]⟩
theorem does_drop_a (i s : Int) (t : Bool) (h : Hid (Sep [idxA x n l f slots, refA r slots l] w T)) (hok : Hid (Ok slots l f)) (h2 : slots ≤ 1024) :
    Calls Try.prog 11 #[.pointer (some ⟨x, 0, none⟩), .pointer (some ⟨r, 0, none⟩), .agg #[.int .i64 1, .int .i64 i, .int .i64 s, .bool t]] w (DidA w T x r n slots l.length) := by
  obtain ⟨P5, hP5⟩ : ∃ y, y = w.heap.size := ⟨_, rfl⟩
  obtain ⟨V, hV⟩ : ∃ y, y = w.alloc (.cells #[.int .i64 1, .int .i64 i, .int .i64 s, .bool t] 32) := ⟨_, rfl⟩
  have HW : Hid (Hv w T [idxA x n l f slots, refA r slots l, blkA P5 32 #[.int .i64 1, .int .i64 i, .int .i64 s, .bool t]] V) := by
    rw [hV, hP5]
    exact ((Hv.start h.out).alloc 32 #[.int .i64 1, .int .i64 i, .int .i64 s, .bool t]).pick [1, 2, 0]
  obtain ⟨L, hL⟩ : ∃ L, L = (dropF l f i).2.1 := ⟨_, rfl⟩
  obtain ⟨F, hF⟩ : ∃ F, F = (dropF l f i).2.2 := ⟨_, rfl⟩
  obtain ⟨a, ha⟩ : ∃ a, a = (dropF l f i).1.1 := ⟨_, rfl⟩
  obtain ⟨b, hb⟩ : ∃ b, b = (dropF l f i).1.2.1 := ⟨_, rfl⟩
  obtain ⟨c, hc⟩ : ∃ c, c = (dropF l f i).1.2.2 := ⟨_, rfl⟩
  have HOK2 : Hid (Ok slots L F ∧ L.length = l.length) := by show _ ∧ _; rw [hL, hF]; exact hok.out.dropF_ i
  have HEa := Lib.hid ha
  have HEb := Lib.hid hb
  have HEc := Lib.hid hc
  have HEL := Lib.hid hL
  have HEF := Lib.hid hF
  clear ha hb hc hL hF
  go_enter Try.func11, Try.ntmps11
  have k0 : V.cell? ⟨P5, 0, none⟩ = some (.int .i64 1) := by simpa using (HW.out.blk (i := 2) rfl).cell 0
  have k1 : V.cell? ⟨P5, 1, none⟩ = some (.int .i64 i) := by simpa using (HW.out.blk (i := 2) rfl).cell 1
  go_wp2_with fail
  rw [← hV, ← hP5]
  clear hV hP5
  obtain ⟨T2, hT2, hJ2⟩ := Hv.use [idxA x n l f slots] _ HW.out
  refine (drop_a i hT2 hok.out h2).mono ?_
  rintro e w2 ⟨rfl, h2'⟩
  have HV2 : Hid (Hv w T [idxA x n L F slots, refA r slots l, blkA P5 32 #[.int .i64 1, .int .i64 i, .int .i64 s, .bool t]] w2) := by
    rw [HEL.out, HEF.out]; exact hJ2 _ _ h2'
  rw [← HEa.out, ← HEb.out, ← HEc.out]
  clear hT2 hJ2 h2' HW k0 k1
  obtain ⟨P7, hP7⟩ : ∃ y, y = w2.heap.size := ⟨_, rfl⟩
  obtain ⟨V2, hV2⟩ : ∃ y, y = w2.alloc (.cells #[.int .i64 a, .bool b] 35) := ⟨_, rfl⟩
  have HV3 : Hid (Hv w T [refA r slots l, idxA x n L F slots, blkA P5 32 #[.int .i64 1, .int .i64 i, .int .i64 s, .bool t], blkA P7 35 #[.int .i64 a, .bool b]] V2) := by
    rw [hV2, hP7]
    exact (HV2.out.alloc 35 #[.int .i64 a, .bool b]).pick [2, 1, 3, 0]
  have k1 : V2.cell? ⟨P5, 1, none⟩ = some (.int .i64 i) := by simpa using (HV3.out.blk (i := 2) rfl).cell 1
  rw [hV2] at k1
  go_wp2_with fail
  rw [← hV2, ← hP7]
  rw [← hV2] at k1
  clear hV2 hP7 HV2
  obtain ⟨T3, hT3, hJ3⟩ := Hv.use [refA r slots l] _ HV3.out
  refine (rdrop_a i hT3 hok).mono ?_
  rintro e w3 ⟨rfl, h3⟩
  have HV4 : Hid (Hv w T [refA r slots L, idxA x n L F slots, blkA P5 32 #[.int .i64 1, .int .i64 i, .int .i64 s, .bool t], blkA P7 35 #[.int .i64 a, .bool b]] w3) := by
    have := hJ3 _ _ h3
    rw [← HEL.out] at this
    exact this
  rw [← HEa.out, ← HEb.out, ← HEc.out]
  clear hT3 hJ3 h3 HV3 k1
  have k4 : w3.cell? ⟨P7, 0, none⟩ = some (.int .i64 a) := by simpa using (HV4.out.blk (i := 3) rfl).cell 0
  have k5 : w3.cell? ⟨P7, 1, none⟩ = some (.bool b) := by simpa using (HV4.out.blk (i := 3) rfl).cell 1
  go_wp2_with fail
  refine (place_same a c b _).mono ?_
  rintro e w4 ⟨rfl, hb4⟩
  have HV5 := Lib.hid (HV4.out.still hb4)
  clear hb4 HV4 k4 k5
  go_wp2
  go_ret
  exact ⟨rfl, L, F, n, Nat.le_succ _, HOK2.out.1, HOK2.out.2, HV5.out.pick [1, 0]⟩
theorem does_clean_a (a i s : Int) (t : Bool) (ha0 : (a == 0) = false) (ha1 : (a == 1) = false) (h : Hid (Sep [idxA x n l f slots, refA r slots l] w T)) (hok : Hid (Ok slots l f)) :
    Calls Try.prog 11 #[.pointer (some ⟨x, 0, none⟩), .pointer (some ⟨r, 0, none⟩), .agg #[.int .i64 a, .int .i64 i, .int .i64 s, .bool t]] w (DidA w T x r n slots l.length) := by
  obtain ⟨P5, hP5⟩ : ∃ y, y = w.heap.size := ⟨_, rfl⟩
  obtain ⟨V, hV⟩ : ∃ y, y = w.alloc (.cells #[.int .i64 a, .int .i64 i, .int .i64 s, .bool t] 32) := ⟨_, rfl⟩
  have HW : Hid (Hv w T [idxA x n l f slots, refA r slots l, blkA P5 32 #[.int .i64 a, .int .i64 i, .int .i64 s, .bool t]] V) := by
    rw [hV, hP5]
    exact ((Hv.start h.out).alloc 32 #[.int .i64 a, .int .i64 i, .int .i64 s, .bool t]).pick [1, 2, 0]
  obtain ⟨L, hL⟩ : ∃ L, L = (cleanF l i).2 := ⟨_, rfl⟩
  obtain ⟨c, hc⟩ : ∃ c, c = (cleanF l i).1 := ⟨_, rfl⟩
  have HOK2 : Hid (Ok slots L f ∧ L.length = l.length) := by show _ ∧ _; rw [hL]; exact hok.out.cleanF_ i
  have HL := Lib.hid hL
  have HC := Lib.hid hc
  clear hL hc
  have HK : Hid (∀ {R : List Atom} {W : World}, Hv w T R W → R[2]? = some (blkA P5 32 #[.int .i64 a, .int .i64 i, .int .i64 s, .bool t]) → W.cell? ⟨P5, 1, none⟩ = some (.int .i64 i)) := fun hv hr => by simpa using (hv.blk hr).cell 1
  go_enter Try.func11, Try.ntmps11
  have k0 : V.cell? ⟨P5, 0, none⟩ = some (.int .i64 a) := by simpa using (HW.out.blk (i := 2) rfl).cell 0
  have k1 : V.cell? ⟨P5, 1, none⟩ = some (.int .i64 i) := by simpa using (HW.out.blk (i := 2) rfl).cell 1
  go_wp2_with fail
  rw [← hV, ← hP5]
  clear hV hP5 k0 k1
  have HX := Lib.hid HW.out.drew
  have k1 := HK.out HX.out rfl
  clear HW
  go_region_held3 (fun W => W.cell? ⟨P5, 1, none⟩ = some (.int .i64 i))
    (first | exact HK.out HX.out rfl | assumption | fail)
    (first
      | (go_at_call 18; obtain ⟨T2, hT2, hJ2⟩ := Hv.use [idxA x n l f slots] _ HX.out; refine (clean_a i hT2 hok.out).mono ?_; rintro e w2 ⟨rfl, h2⟩; rw [← HL.out] at h2; rw [← HC.out]; have hQ := hJ2 _ _ h2; have HX : Hid (Hv w T [idxA x n L f slots, refA r slots l, blkA P5 32 #[.int .i64 a, .int .i64 i, .int .i64 s, .bool t]] w2) := hQ; clear hT2 hJ2 h2 hQ)
      | (go_at_call 28; have hQ1 : Hv w T ([refA r slots l] ++ [idxA x n L f slots, blkA P5 32 #[.int .i64 a, .int .i64 i, .int .i64 s, .bool t]]) _ := HX.out.pick [1, 0, 2]; obtain ⟨T2, hT2, hJ2⟩ := Hv.use [refA r slots l] _ hQ1; refine (rclean_a i hT2 hok).mono ?_; rintro e w3 ⟨rfl, h3⟩; rw [← HL.out] at h3; rw [← HC.out]; have hQ := hJ2 _ _ h3; have HX : Hid (Hv w T [refA r slots L, idxA x n L f slots, blkA P5 32 #[.int .i64 a, .int .i64 i, .int .i64 s, .bool t]] w3) := hQ; clear hT2 hJ2 h3 hQ hQ1)
      | fail)
  go_wp2
  go_ret
  exact ⟨by simp, L, f, n, Nat.le_succ _, HOK2.out.1, HOK2.out.2, HX.out.pick [1, 0]⟩
end
end Go.Proofs.Ytofeodhekpnpaaa

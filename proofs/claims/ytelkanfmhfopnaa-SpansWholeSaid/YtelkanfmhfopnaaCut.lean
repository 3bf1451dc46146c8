/- The walk of Cut. -/
import Derived.Test.YtelkanfmhfopnaaAdd
namespace Go.Proofs.Ytelkanfmhfopnaa
open Go.RowKit Go.LawEnd

theorem hv_append_two {P : Program} {w0 W : World} {S : Nat → Prop} {L : List Atom} {v vx : Value} {e : TypeId} {size n m : Nat} {xs news : List Value} (h : Hv w0 S (rowA v e size n xs :: rowA vx e size m news :: L) W)
    (t ty : TypeId) {i : TypeInfo} {z : Value} {bytes : Nat} (ht : P.underlying t = some (.slice e)) (hi : P.info? e = some i) (hz : i.zero = some z)
    (hsize : i.size = size) (hby : i.bytes = bytes) (hzs : z.cells.size = size) (hsz : 0 < size) (h1 : ∀ u ∈ news, u.oneCell' = true) (h63 : n + m ≤ maxLen) (hbytes : (n + m) * bytes ≤ 140737488355328) (hnil : m = 0 → vx = .slice none 0 0) :
    ∃ v' w', (Builtin.append_ #[t, t] ty #[v, vx]).run P W = .ok v' w' ∧ Hv w0 S (rowA v' e size (n + m) (xs ++ news) :: L) w' ∧ (m = 0 → v' = v) := by
  have hr := h.row (i := 0) rfl
  have hx := h.row (i := 1) rfl
  by_cases hm : m = 0
  · subst hm
    have hn : news = [] := List.eq_nil_of_length_eq_zero (by simpa using hx.1)
    subst hn
    rw [hnil rfl]
    refine ⟨v, W, run_append_owned_none W 0 t ty e i size ht hi v n xs hr, ?_, fun _ => rfl⟩
    rw [List.append_nil]
    exact (h.perm (List.Perm.swap _ _ _)).tail
  · obtain ⟨v', w', k1, k2, k3, k4⟩ := run_append_two (P := P) (w := W) t ty 0 e i z size bytes ht hi hz hsize hby hzs hsz v n xs hr 0 vx m news hx h1 h63 hbytes (Nat.zero_le _)
    refine ⟨v', w', k1, ?_, fun e => absurd e hm⟩
    have h' : Hv w0 S (rowA v e size n xs :: L) W := ((h.perm (List.Perm.swap _ _ _)).tail)
    refine h'.grew k3 k2 fun b hb => ?_
    rcases k4 with k4 | k4
    · left; rw [← k4]; exact hb
    · right; rw [k4] at hb; injection hb with hb; omega

set_option maxRecDepth 100000 in
set_option maxHeartbeats 3200000 in
theorem cut_any {T : Nat → Prop} (s : Nat) (l : List Sp) (x : Sp) (w : World) (h : Hid (Sep [setA s l] w T)) (hok : Hid (OkS l)) (hx1 : -9223372036854775808 ≤ x.2) (hx2 : x.2 ≤ 9223372036854775807) :
    Calls Try.prog 24 #[.pointer (some ⟨s, 0, none⟩), .agg #[.int .i64 x.1, .int .i64 x.2]] w fun e w' => e = .returned (.int .i64 (if mayB x = true then 0 else 10)) ∧ Hv w T [setA s (if mayB x = true then cutF l x else l)] w' := by
  obtain ⟨x0, x1⟩ := x
  have HC0 := Lib.hid (fun W : World => check_any s (x0, x1) W hx1 hx2)
  have HW : Hid (Hv w T [setA s l, blkA w.heap.size 26 #[.int .i64 x0, .int .i64 x1]] (w.alloc (.cells #[.int .i64 x0, .int .i64 x1] 26))) := ((Hv.start h.out).alloc 26 #[.int .i64 x0, .int .i64 x1]).pick [1, 0]
  clear hx1 hx2
  go_enter Try.func24, Try.ntmps24
  go_wp2_with fail
  refine (HC0.out _).mono ?_
  rintro e W2 ⟨rfl, hb⟩
  obtain ⟨P3, hP3⟩ : ∃ y, y = w.heap.size := ⟨_, rfl⟩
  rw [← hP3] at HW ⊢
  have HW2 := Lib.hid (HW.out.still hb)
  clear hP3 hb HW HC0
  by_cases hm : mayB (x0, x1) = true
  · have HM := Lib.hid ((mayB_iff _).1 hm)
    rw [if_pos hm]
    have HMB := Lib.hid hm
    clear hm
    by_cases hp : 0 < x1
    · obtain ⟨v, hv⟩ := HW2.out.open_
      obtain ⟨A, c, rfl, hA⟩ := SpArg.of_own (hv.row (i := 1) rfl)
      have HV : Hid (Hv w T [rsA (.slice A l.length c) l, pureA (l = [] → Value.slice A l.length c = .slice none 0 0), blkA s 59 #[.slice A l.length c], blkA P3 26 #[.int .i64 x0, .int .i64 x1]] W2) := hv.pick [1, 2, 0, 3]
      have HA := Lib.hid (hA.below ((Below.refl _ W2).drew))
      have k3 : W2.cell? ⟨P3, 1, none⟩ = some (.int .i64 x1) := by simpa using (HV.out.blk (i := 3) rfl).cell 1
      clear hv hA HW2
      go_wp2_with fail
      have HC : Hid (∀ (R Q : Atom) (L : List Atom) (W : World), Hv w T (R :: Q :: blkA s 59 #[.slice A l.length c] :: blkA P3 26 #[.int .i64 x0, .int .i64 x1] :: L) W → W.cell? ⟨s, 0, none⟩ = some (.slice A l.length c) ∧ W.cell? ⟨P3, 0, none⟩ = some (.int .i64 x0) ∧ W.cell? ⟨P3, 1, none⟩ = some (.int .i64 x1)) := fun R Q L W h => by
        have h3 := h.blk (i := 2) rfl
        have h7 := h.blk (i := 3) rfl
        exact ⟨by simpa using h3.cell 0, by simpa using h7.cell 0, by simpa using h7.cell 1⟩
      have HX := Lib.hid HV.out.drew
      clear HV k3
      go_region_held3 (fun W => W.cell? ⟨s, 0, none⟩ = some (.slice A l.length c) ∧ W.cell? ⟨P3, 0, none⟩ = some (.int .i64 x0) ∧ W.cell? ⟨P3, 1, none⟩ = some (.int .i64 x1))
        (first | exact HC.out _ _ _ _ HX.out | assumption | fail)
        (first
          | (go_at_call 34; refine (without_any A c l (x0, x1) _ HA (by have := hok.out.len; omega) HM (Lib.hid (fun y hy => by have := hok.out.val y hy; exact ⟨this.1, by omega, this.2.2⟩))).mono ?_; rintro e W3 ⟨vA, vB, rfl, hb3, ha0, hb0⟩; have HX : Hid (Hv w T [rsA vA (aheadF l (x0, x1)), rsA vB (behindF l (x0, x1)), blkA s 59 #[.slice A l.length c], blkA P3 26 #[.int .i64 x0, .int .i64 x1], rsA (.slice A l.length c) l] W3) := (HX.out.add hb3).pick [0, 1, 4, 5, 2]; have HAB := Lib.hid (And.intro ha0 hb0); clear hb3 ha0 hb0)
          | fail)
      clear HA
      have HCUT : Hid (cutF l (x0, x1) = aheadF l (x0, x1) ++ behindF l (x0, x1)) := by show _ = _; unfold cutF; rw [if_pos hp]
      have la := (ahead_ok hok.out (x := (x0, x1))).1.len
      have lb := (behind_ok hok.out (x := (x0, x1))).1.len
      obtain ⟨i0, hi0, hz0, hz1, hz2⟩ := info_parts infoSp
      have h3 : Hv w T (rsA vA (aheadF l (x0, x1)) :: rsA vB (behindF l (x0, x1)) :: [blkA s 59 #[.slice A l.length c]]) W3 := HX.out.pick [0, 1, 2]
      obtain ⟨v', W4, hE, hH, hn⟩ := hv_append_two (P := Try.prog) h3 22 22 Try.underlying22 hi0 hz0 hz1 hz2 rfl (by omega) (sps_cell _) (by unfold maxLen; omega) (by omega) (fun e => HAB.out.2 (List.eq_nil_of_length_eq_zero e))
      have HE := Lib.hid hE
      have H4 : Hid (Hv w T (blkA s 59 #[.slice A l.length c] :: [rsA v' (cutF l (x0, x1))]) W4) := by
        show Hv w T _ W4
        rw [HCUT.out]
        unfold rsA
        rw [sps_append, List.length_append]
        exact hH.pick [1, 0]
      have H0 : Hid (cutF l (x0, x1) = [] → v' = .slice none 0 0) := fun e => by
        rw [HCUT.out, List.append_eq_nil_iff] at e
        rw [hn (by rw [e.2]; rfl)]
        exact HAB.out.1 e.1
      obtain ⟨A6, c6, e6, _⟩ := SpArg.of_own (H4.out.row (i := 1) rfl)
      subst e6
      have k0 : W4.cell? ⟨s, 0, none⟩ = some (.slice A l.length c) := by simpa using (H4.out.blk (i := 0) rfl).cell 0
      have k4 : W4.frozen? ⟨s, 0, none⟩ = false := (H4.out.blk (i := 0) rfl).frozen 0
      clear hE hH hn h3 hi0 hz0 hz1 hz2 la lb HX HC
      go_wp2_with (first | (at_builtin; refine wpList_append_run rfl (.tmp 27) (.tmp 28) _ rfl HE.out ?_) | fail)
      go_ret
      refine ⟨rfl, ?_⟩
      exact hv_mkSet (H4.out.set 0 _) H0.out
    · have hp0 : x1 ≤ 0 := by omega
      have k3 : W2.cell? ⟨P3, 1, none⟩ = some (.int .i64 x1) := by simpa using (HW2.out.blk (i := 1) rfl).cell 1
      have HCUT : Hid (cutF l (x0, x1) = l) := by show _ = _; unfold cutF; rw [if_neg hp]
      clear hp
      go_wp2
      go_ret
      rw [HCUT.out]
      exact ⟨rfl, HW2.out.drop [setA _ _] _⟩
  · have HMB := Lib.hid hm
    rw [if_neg hm]
    clear hm
    go_wp2
    go_ret
    exact ⟨rfl, HW2.out.drop [setA _ _] _⟩
theorem add_may {T : Nat → Prop} (s : Nat) (l : List Sp) (x : Sp) (w : World) (h : Hid (Sep [setA s l] w T)) (hok : Hid (OkS l)) (hm : mayB x = true) :
    Calls Try.prog 23 #[.pointer (some ⟨s, 0, none⟩), .agg #[.int .i64 x.1, .int .i64 x.2]] w fun e w' => e = .returned (.int .i64 0) ∧ Hv w T [setA s (addF l x)] w' := by
  have hx := (mayB_iff x).1 hm
  obtain ⟨h1, h2, h3⟩ := hx
  have he : en x = x.1 + x.2 := rfl
  have := add_any s l x w h hok (by omega) (by omega)
  rw [if_pos hm, if_pos hm] at this
  exact this
theorem add_not {T : Nat → Prop} (s : Nat) (l : List Sp) (x : Sp) (w : World) (h : Hid (Sep [setA s l] w T)) (hok : Hid (OkS l)) (hx1 : -9223372036854775808 ≤ x.2) (hx2 : x.2 ≤ 9223372036854775807) (hm : mayB x = false) :
    Calls Try.prog 23 #[.pointer (some ⟨s, 0, none⟩), .agg #[.int .i64 x.1, .int .i64 x.2]] w fun e w' => e = .returned (.int .i64 10) ∧ Hv w T [setA s l] w' := by
  have := add_any s l x w h hok hx1 hx2
  rw [if_neg (by rw [hm]; simp), if_neg (by rw [hm]; simp)] at this
  exact this
theorem cut_may {T : Nat → Prop} (s : Nat) (l : List Sp) (x : Sp) (w : World) (h : Hid (Sep [setA s l] w T)) (hok : Hid (OkS l)) (hm : mayB x = true) :
    Calls Try.prog 24 #[.pointer (some ⟨s, 0, none⟩), .agg #[.int .i64 x.1, .int .i64 x.2]] w fun e w' => e = .returned (.int .i64 0) ∧ Hv w T [setA s (cutF l x)] w' := by
  have hx := (mayB_iff x).1 hm
  obtain ⟨h1, h2, h3⟩ := hx
  have he : en x = x.1 + x.2 := rfl
  have := cut_any s l x w h hok (by omega) (by omega)
  rw [if_pos hm, if_pos hm] at this
  exact this
theorem cut_not {T : Nat → Prop} (s : Nat) (l : List Sp) (x : Sp) (w : World) (h : Hid (Sep [setA s l] w T)) (hok : Hid (OkS l)) (hx1 : -9223372036854775808 ≤ x.2) (hx2 : x.2 ≤ 9223372036854775807) (hm : mayB x = false) :
    Calls Try.prog 24 #[.pointer (some ⟨s, 0, none⟩), .agg #[.int .i64 x.1, .int .i64 x.2]] w fun e w' => e = .returned (.int .i64 10) ∧ Hv w T [setA s l] w' := by
  have := cut_any s l x w h hok hx1 hx2
  rw [if_neg (by rw [hm]; simp), if_neg (by rw [hm]; simp)] at this
  exact this
end Go.Proofs.Ytelkanfmhfopnaa
